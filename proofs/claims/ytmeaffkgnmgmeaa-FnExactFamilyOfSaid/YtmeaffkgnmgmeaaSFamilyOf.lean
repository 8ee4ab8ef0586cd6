/- Contract of the reference's FamilyOf. -/
import Derived.Test.YtmeaffkgnmgmeaaFamilyOf
namespace Go.Proofs.Ytmeaffkgnmgmeaa.SFamilyOf
open Go.RowKit Go.Lib Go.Proofs Go.Proofs.YtmeaffkgnmgmeaaW.PrintWords Go.Proofs.YtmeaffkgnmgmeaaW.PrintWords.Kd Go.Proofs.YtmeaffkgnmgmeaaW.PrintLast Go.Proofs.YtmeaffkgnmgmeaaW.PrintMore Go.Proofs.Ytmeaffkgnmgmeaa.G Go.Proofs.Ytmeaffkgnmgmeaa.Fam Go.Proofs.Ytmeaffkgnmgmeaa.Loops Go.Proofs.Ytmeaffkgnmgmeaa.Bits Go.Proofs.Ytmeaffkgnmgmeaa.Sorting Go.Proofs.Ytmeaffkgnmgmeaa.Crowds Go.Proofs.Ytmeaffkgnmgmeaa.Sorted Go.Proofs.Ytmeaffkgnmgmeaa.Idx Go.Proofs.Ytmeaffkgnmgmeaa.Valid Go.Proofs.Ytmeaffkgnmgmeaa.Opens Go.Proofs.Ytmeaffkgnmgmeaa.Ops Go.Proofs.Ytmeaffkgnmgmeaa.Ref Go.Proofs.Ytmeaffkgnmgmeaa.Ok Go.Proofs.Ytmeaffkgnmgmeaa.From Go.Proofs.Ytmeaffkgnmgmeaa.SDual Go.Proofs.Ytmeaffkgnmgmeaa.SOpen Go.Proofs.Ytmeaffkgnmgmeaa.FamLaw Go.Proofs.Ytmeaffkgnmgmeaa.FamilyOf
set_option linter.unusedVariables false
set_option linter.unusedSimpArgs false
/-- The box of the result. -/
def rsW (w : World) : World := w.alloc (.cells #[.int .i64 0, .slice none 0 0] 27)
theorem rsW_below (w : World) : Below w.heap.size w (rsW w) := below_alloc (Below.refl _ _) _
theorem rsW_size (w : World) : (rsW w).heap.size = w.heap.size + 1 := by simp [rsW]
theorem rsW_box (w : World) (W : World) (hb : Below (rsW w).heap.size (rsW w) W) : W.heap[w.heap.size]? = some (.cells #[.int .i64 0, .slice none 0 0] 27 (0, 0)) := blk_below (blk_new w _) hb
set_option maxHeartbeats 2000000 in
theorem SFamilyOf_far (n : Int) (A : Option Addr) (cap : Nat) (gs : List (List Int)) (w : World) (hn : ¬ (1 ≤ n ∧ n ≤ 7)) :
    Calls Try.prog 29 #[.int .i64 n, .slice A gs.length cap] w (FamRes w 0 [] 2) := by
  have hu := Try.underlying27
  have HIN := fun W => in_calls n 1 7 W
  rw [decide_eq_false hn] at HIN
  have HBX := Aside0.mk (rsW_box w)
  clear hn
  go_enter Try.func29, Try.ntmps29
  go_wp2_with (fail)
  rw [show w.alloc (.cells #[.int .i64 0, .slice none 0 0] 27) = rsW w from rfl]
  (refine (HIN _).mono ?_; rintro e w1 ⟨rfl, q, rfl⟩)
  have HZ := Aside0.mk (HBX.out _ (pw_below_drewN (Below.refl _ _) q))
  have z0 : ((rsW w).drewN q).cell? ⟨w.heap.size, 0, none⟩ = some (.int .i64 0) := (blk_cell HZ.out 0).trans rfl
  have z1 : ((rsW w).drewN q).cell? ⟨w.heap.size, 1, none⟩ = some (.slice none 0 0) := (blk_cell HZ.out 1).trans rfl
  have f0 := blk_frozen HZ.out 0
  have f1 := blk_frozen HZ.out 1
  go_wp2_with (fail)
  have p0 := fun a b => put0 (a := a) (b := b) HZ.out
  have p1 := fun a b => put1 (a := a) (b := b) HZ.out
  refine bodyPost_ret (v := .tuple #[.agg #[.int .i64 0, .slice none 0 0], .int .i64 2]) (by simp [results, Try.results29, go_sem, p0, p1]) rfl ⟨_, rfl, S_nil _ _ _ _ _, ?_⟩
  exact below_set (below_set (pw_below_drewN (rsW_below w) _) (by omega)) (by omega)
set_option maxHeartbeats 2000000 in
theorem SFamilyOf_many (n : Int) (A : Option Addr) (cap : Nat) (gs : List (List Int)) (w : World) (hn : 1 ≤ n ∧ n ≤ 7) (hl : ¬ gs.length ≤ 200) :
    Calls Try.prog 29 #[.int .i64 n, .slice A gs.length cap] w (FamRes w 0 [] 2) := by
  have hu := Try.underlying27
  have HIN := fun W => in_calls n 1 7 W
  rw [decide_eq_true hn] at HIN
  have HBX := Aside0.mk (rsW_box w)
  have hd1 : decide ((200 : Int) < (gs.length : Int)) = true := decide_eq_true (by omega)
  have hd2 : decide (200 < gs.length) = true := decide_eq_true (by omega)
  clear hn hl
  generalize gs.length = L at *
  go_enter Try.func29, Try.ntmps29
  go_wp2_with (fail)
  rw [show w.alloc (.cells #[.int .i64 0, .slice none 0 0] 27) = rsW w from rfl]
  (refine (HIN _).mono ?_; rintro e w1 ⟨rfl, q, rfl⟩)
  have HZ := Aside0.mk (HBX.out _ (pw_below_drewN (Below.refl _ _) q))
  have z0 : ((rsW w).drewN q).cell? ⟨w.heap.size, 0, none⟩ = some (.int .i64 0) := (blk_cell HZ.out 0).trans rfl
  have z1 : ((rsW w).drewN q).cell? ⟨w.heap.size, 1, none⟩ = some (.slice none 0 0) := (blk_cell HZ.out 1).trans rfl
  have f0 := blk_frozen HZ.out 0
  have f1 := blk_frozen HZ.out 1
  go_wp2_with (fail)
  have p0 := fun a b => put0 (a := a) (b := b) HZ.out
  have p1 := fun a b => put1 (a := a) (b := b) HZ.out
  refine bodyPost_ret (v := .tuple #[.agg #[.int .i64 0, .slice none 0 0], .int .i64 2]) (by simp [results, Try.results29, go_sem, p0, p1]) rfl ⟨_, rfl, S_nil _ _ _ _ _, ?_⟩
  exact below_set (below_set (pw_below_drewN (rsW_below w) _) (by omega)) (by omega)
set_option maxHeartbeats 4000000 in
set_option maxRecDepth 20000 in
theorem SFamilyOf_in (n : Nat) (A : Option Addr) (cap : Nat) (gs : List (List Int)) (w : World) (hC : dR.C w A gs.length gs) (hcap : gs.length ≤ cap) (hn : 1 ≤ n ∧ n ≤ 7) (hl : gs.length ≤ 200) (r : Int × List (List Int) × Int) (hr : r = if ∀ g ∈ gs, isGroupN n g then ((n : Int), famN n (openN gs), 0) else (0, [], 2)) :
    Calls Try.prog 29 #[.int .i64 (n : Int), .slice A gs.length cap] w (FamRes w r.1 r.2.1 r.2.2) := by
  have hu := Try.underlying27
  have HIN := fun W => in_calls (n : Int) 1 7 W
  rw [decide_eq_true (show 1 ≤ (n : Int) ∧ (n : Int) ≤ 7 by omega)] at HIN
  have HBX := Aside0.mk (rsW_box w)
  have HR := Aside0.mk (fun (W : World) (hb : Below w.heap.size w W) (i : Nat) (hi : i < gs.length) => row_at (C_below hC hb) hi)
  have HC := Aside0.mk hC
  have HM := Aside0.mk hn
  have hd1 : decide ((200 : Int) < (gs.length : Int)) = false := decide_eq_false (by omega)
  have hd2 : decide (200 < gs.length) = false := decide_eq_false (by omega)
  have HRS := Aside0.mk hr
  have HLN := Aside0.mk (show ∀ i, i < gs.length → gs.getD i [] ∈ gs from fun i hi => by rw [getDg hi]; exact List.getElem_mem hi)
  have HCP := Aside0.mk hcap
  have hbig : gs.length ≤ 200 := hl
  clear hC hn hl hr hcap
  generalize hL : gs.length = L at *
  have HL := Aside0.mk hL.symm
  clear hL
  go_enter Try.func29, Try.ntmps29
  go_wp2_with (fail)
  rw [show w.alloc (.cells #[.int .i64 0, .slice none 0 0] 27) = rsW w from rfl]
  (refine (HIN _).mono ?_; rintro e w1 ⟨rfl, q, hw1⟩; have HB1 := Aside0.mk (show Below (rsW w).heap.size (rsW w) w1 by rw [hw1]; exact pw_below_drewN (Below.refl _ _) _); clear hw1)
  go_wp2_with (fail)
  go_loopg [6] L (fun gg v6 wr => ∃ i : Nat, i ≤ L ∧ L - i ≤ gg ∧ v6 = .int .i64 (i : Int) ∧ Aside0 (Below (rsW w).heap.size (rsW w) wr) ∧ Aside0 (∀ j, j < i → isGroupN n (gs.getD j [])))
  case atStart => exact ⟨0, Nat.zero_le _, by omega, rfl, HB1, ⟨fun j hj => absurd hj (Nat.not_lt_zero _)⟩⟩
  case round =>
    clear HB1
    obtain ⟨i, hi, hgg, rfl, HB, HP⟩ := hrel
    have HW := Aside0.mk (below_then (rsW_below w) (rsW_below w).size HB.out)
    by_cases hlt : i < L
    · have hltz : (i : Int) < (L : Int) := by omega
      obtain ⟨ad, A1, c1, rfl, e1, le1, C1⟩ := HR.out wr HW.out i hlt
      have HGR := fun q => group_calls n (by have := HM.out; omega) A1 c1 (gs.getD i []) (wr.drewN q) (C_drewN C1 q) le1
      clear C1 le1
      cases hq : decide (isGroupN n (gs.getD i [])) with
      | false =>
        rw [hq] at HGR
        have HQ := Aside0.mk (of_decide_eq_false hq)
        clear hq
        have HNO := Aside0.mk (show r.1 = 0 ∧ r.2.1 = [] ∧ r.2.2 = 2 by rw [HRS.out, if_neg (fun h => HQ.out (h _ (HLN.out i hlt)))]; exact ⟨rfl, rfl, rfl⟩)
        clear HQ
        generalize gs.getD i [] = x at *
        have HZ := Aside0.mk (HBX.out _ HB.out)
        go_wp2_with (fail)
        (refine (HGR 0).mono ?_; rintro e w2 ⟨rfl, q2, hw2⟩; have HZ2 := Aside0.mk (show w2.heap[w.heap.size]? = some (.cells #[.int .i64 0, .slice none 0 0] 27 (0, 0)) by rw [hw2]; exact HZ.out); have HB2 := Aside0.mk (show Below w.heap.size w w2 by rw [hw2]; exact pw_below_drewN HW.out _); clear hw2)
        have z0 : w2.cell? ⟨w.heap.size, 0, none⟩ = some (.int .i64 0) := (blk_cell HZ2.out 0).trans rfl
        have z1 : w2.cell? ⟨w.heap.size, 1, none⟩ = some (.slice none 0 0) := (blk_cell HZ2.out 1).trans rfl
        have f0 := blk_frozen HZ2.out 0
        have f1 := blk_frozen HZ2.out 1
        clear HGR e1
        go_wp2_with (fail)
        have p0 := fun a b => put0 (a := a) (b := b) HZ2.out
        have p1 := fun a b => put1 (a := a) (b := b) HZ2.out
        rw [HNO.out.1, HNO.out.2.1, HNO.out.2.2]
        refine bodyPost_ret (v := .tuple #[.agg #[.int .i64 0, .slice none 0 0], .int .i64 2]) (by simp [results, Try.results29, go_sem, p0, p1]) rfl ⟨_, rfl, S_nil _ _ _ _ _, ?_⟩
        exact below_set (below_set HB2.out (by omega)) (by omega)
      | true =>
        rw [hq] at HGR
        have HQ := Aside0.mk (of_decide_eq_true hq)
        clear hq
        have HP2 := Aside0.mk (show ∀ j, j < i + 1 → isGroupN n (gs.getD j []) from fun j hj => by
          by_cases e : j = i
          · subst e; exact HQ.out
          · exact HP.out j (by omega))
        clear HQ HP
        generalize gs.getD i [] = x at *
        go_wp2_with (fail)
        (refine (HGR 0).mono ?_; rintro e w2 ⟨rfl, q2, hw2⟩; have HB2 := Aside0.mk (show Below (rsW w).heap.size (rsW w) w2 by rw [hw2]; exact pw_below_drewN HB.out _); clear hw2)
        clear HGR e1
        go_wp2_with (fail)
        go_roundg (L - (i + 1))
        case measure => omega
        case rel => exact ⟨i + 1, by omega, by omega, by go_num, HB2, HP2⟩
    · have hltz : ¬ (i : Int) < (L : Int) := by omega
      obtain rfl : i = L := by omega
      clear hlt
      have HSM := Aside0.mk (show Smalls gs from fun g hg x hx => by
        obtain ⟨j, hj, rfl⟩ := List.mem_iff_getElem.1 hg
        have h1 := small_of (by have := HM.out; omega) (HP.out j (by rw [HL.out]; exact hj))
        rw [getDg hj] at h1
        exact h1 x hx)
      have HYES := Aside0.mk (show r.1 = (n : Int) ∧ r.2.1 = famN n (tb (tableN n gs)) ∧ r.2.2 = 0 by
        rw [HRS.out, if_pos (fun g hg => by
          obtain ⟨j, hj, rfl⟩ := List.mem_iff_getElem.1 hg
          have h1 := (HP.out j (by rw [HL.out]; exact hj))
          rwa [getDg hj] at h1), famN_congr (p := tb (tableN n gs)) (q := openN gs) (fun c hc => tableN_at hc)]
        exact ⟨rfl, rfl, rfl⟩)
      have HI := Aside0.mk (show IsS27 w (wr.alloc (.cells #[.int .i64 (n : Int), .slice A i cap] 27)) wr.heap.size (n : Int) gs from ⟨A, cap, by have h_ := HL.out; subst h_; exact blk_new wr _, HW.out.size, by have h_ := HL.out; subst h_; exact HC.out⟩)
      have HWA := Aside0.mk (show Below w.heap.size w (wr.alloc (.cells #[.int .i64 (n : Int), .slice A i cap] 27)) from below_alloc HW.out _)
      have HWB := Aside0.mk (show Below (rsW w).heap.size (rsW w) (wr.alloc (.cells #[.int .i64 (n : Int), .slice A i cap] 27)) from below_alloc HB.out _)
      have HTB := Aside0.mk (fun W hI hB => l01Table_calls wr.heap.size n (by have := HM.out; omega) gs HSM.out w W hI hB)
      have HFR := Aside0.mk (fun (W : World) (T : Option Addr) (cT : Nat) (hc : 2 ^ n ≤ cT) (hC : Kd.C Kd.bool W T (2 ^ n) (tableN n gs)) => from_calls n (by have := HM.out; omega) T cT (tableN n gs) W (tableN_len n gs) (by rw [tableN_len]; exact hC) (by rw [tableN_len]; exact hc))
      clear hltz hd1 hd2 HP HR HRS
      simp only [tableN_len] at HFR
      generalize hF : famN n (tb (tableN n gs)) = F at *
      clear hF
      have HTBG := HTB.out _ HI.out HWA.out
      go_wp2_with (fail)
      (refine HTBG.mono ?_; rintro e w2 ⟨T, cT, rfl, hcT, hT, hi2, hb2, hk2⟩; have HT := Aside0.mk hT; have HCT := Aside0.mk hcT; have HB2 := Aside0.mk hb2; have HK2 := Aside0.mk hk2; clear hT hcT hi2 hb2 hk2 HTBG)
      go_wp2_with (fail)
      (refine (HFR.out w2 T cT HCT.out HT.out).mono ?_; rintro e w3 ⟨v3, rfl, hs3, hb3⟩; obtain ⟨A3, c3, rfl⟩ := S_slice hs3; have HS3 := Aside0.mk hs3; have HB3 := Aside0.mk (below_then HB2.out HB2.out.size hb3); have HZ := Aside0.mk (show w3.heap[w.heap.size]? = some (.cells #[.int .i64 0, .slice none 0 0] 27 (0, 0)) from blk_below ((HK2.out.2 w.heap.size (by have h_ := HWB.out.size; rw [rsW_size] at h_; omega) (by have h_ := HB.out.size; rw [rsW_size] at h_; omega) (by simp)).trans (HBX.out _ HWB.out)) hb3); clear hs3 hb3)
      have z0 : w3.cell? ⟨w.heap.size, 0, none⟩ = some (.int .i64 0) := (blk_cell HZ.out 0).trans rfl
      have z1 : w3.cell? ⟨w.heap.size, 1, none⟩ = some (.slice none 0 0) := (blk_cell HZ.out 1).trans rfl
      have f0 := blk_frozen HZ.out 0
      have f1 := blk_frozen HZ.out 1
      go_wp2_with (fail)
      have p0 := fun a b => put0 (a := a) (b := b) HZ.out
      have p1 := fun a b => put1 (a := a) (b := b) HZ.out
      rw [HYES.out.1, HYES.out.2.1, HYES.out.2.2]
      refine bodyPost_ret (v := .tuple #[.agg #[.int .i64 (n : Int), .slice A3 F.length c3], .int .i64 0]) (by simp [results, Try.results29, go_sem, p0, p1]) rfl ⟨_, rfl, S_put HZ.out (S_lower HS3.out HB2.out.size), ?_⟩
      exact below_set (below_set HB3.out (by omega)) (by omega)
theorem SFamilyOf_calls (n : Int) (A : Option Addr) (cap : Nat) (gs : List (List Int)) (w : World) (hC : dR.C w A gs.length gs) (hcap : gs.length ≤ cap) :
    Calls Try.prog 29 #[.int .i64 n, .slice A gs.length cap] w (FamRes w (FamilyOfF n gs).1 (FamilyOfF n gs).2.1 (FamilyOfF n gs).2.2) := by
  by_cases hn : 1 ≤ n ∧ n ≤ 7
  · by_cases hl : gs.length ≤ 200
    · obtain ⟨m, rfl⟩ : ∃ m : Nat, n = (m : Int) := ⟨n.toNat, by omega⟩
      refine SFamilyOf_in m A cap gs w hC hcap (by omega) hl _ ?_
      unfold FamilyOfF
      by_cases hg : ∀ g ∈ gs, isGroupN m g
      · rw [if_pos hg, if_pos ⟨hn, hl, by rw [Int.toNat_natCast]; exact hg⟩, Int.toNat_natCast]
      · rw [if_neg hg, if_neg (fun h => hg (by have h2 := h.2.2; rwa [Int.toNat_natCast] at h2))]
    · unfold FamilyOfF
      rw [if_neg (fun h => hl h.2.1)]
      exact SFamilyOf_many n A cap gs w hn hl
  · unfold FamilyOfF
    rw [if_neg (fun h => hn h.1)]
    exact SFamilyOf_far n A cap gs w hn
end Go.Proofs.Ytmeaffkgnmgmeaa.SFamilyOf
