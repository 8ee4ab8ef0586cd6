/- Contract of the reference's DualFamily. -/
import Derived.Test.YtmeaffkgnmgmeaaOk
import Derived.Test.YtmeaffkgnmgmeaaGx4
namespace Go.Proofs.Ytmeaffkgnmgmeaa.SDual
open Go.RowKit Go.Lib Go.Proofs Go.Proofs.YtmeaffkgnmgmeaaW.PrintWords Go.Proofs.YtmeaffkgnmgmeaaW.PrintWords.Kd Go.Proofs.YtmeaffkgnmgmeaaW.PrintLast Go.Proofs.YtmeaffkgnmgmeaaW.PrintMore Go.Proofs.Ytmeaffkgnmgmeaa.G Go.Proofs.Ytmeaffkgnmgmeaa.Fam Go.Proofs.Ytmeaffkgnmgmeaa.Loops Go.Proofs.Ytmeaffkgnmgmeaa.Bits Go.Proofs.Ytmeaffkgnmgmeaa.Sorting Go.Proofs.Ytmeaffkgnmgmeaa.Crowds Go.Proofs.Ytmeaffkgnmgmeaa.Sorted Go.Proofs.Ytmeaffkgnmgmeaa.Idx Go.Proofs.Ytmeaffkgnmgmeaa.Valid Go.Proofs.Ytmeaffkgnmgmeaa.FamLaw Go.Proofs.Ytmeaffkgnmgmeaa.Opens Go.Proofs.Ytmeaffkgnmgmeaa.Ops Go.Proofs.Ytmeaffkgnmgmeaa.From Go.Proofs.Ytmeaffkgnmgmeaa.Ref Go.Proofs.Ytmeaffkgnmgmeaa.Ok
set_option linter.unusedVariables false
set_option linter.unusedSimpArgs false

/-- A table that is made of a predicate. -/
def tab (p : Nat → Bool) (i : Nat) : List Bool := (List.range i).map p
theorem tab_len (p : Nat → Bool) (i : Nat) : (tab p i).length = i := by simp [tab]
theorem tab_succ (p : Nat → Bool) (i : Nat) : tab p (i + 1) = tab p i ++ [p i] := by simp [tab, List.range_succ]
theorem tab_at {p : Nat → Bool} {n c : Nat} (hc : c < n) : tb (tab p n) c = p c := by simp [tb, tab, List.getD, hc]
theorem from_tab {n : Nat} (hn : n ≤ 7) (p : Nat → Bool) : spec_l01From.f (n : Int) (tab p (2 ^ n)) = some ((n : Int), famN n p) := by
  show FromF _ _ = _
  unfold FromF
  rw [if_pos ⟨by omega, by rw [tab_len, Int.toNat_natCast]⟩, Int.toNat_natCast, famN_congr (q := p) (fun c hc => tab_at hc)]

theorem sdual_loop (n : Nat) (hn : n ≤ 7) (gs : List (List Int)) : ∀ (d i : Nat), i ≤ 2 ^ n → 2 ^ n - i = d →
    Ev (fun k => spec_l01Dual.l0 k (tableN n gs) (tab (dualP n gs) i) (i : Int) (n : Int) gs) ((n : Int), famN n (dualP n gs), (n : Int)) := by
  have h7 := two_pow_le hn
  have hlen := tableN_len n gs
  generalize hM : 2 ^ n = M at *
  intro d
  induction d with
  | zero =>
    intro i hi hd
    obtain rfl : i = M := by omega
    refine Ev.step (f := fun _ => (spec_l01From.f (n : Int) (tab (dualP n gs) i)).bind fun bt => some (bt.1, bt.2, (n : Int))) (fun k => by
      simp only [spec_l01Dual.l0]; rw [if_neg (by omega)]) ?_
    rw [← hM, from_tab hn]
    exact Ev.now _
  | succ d ih =>
    intro i hi hd
    have hlt : i < M := by omega
    have h1 := ih (i + 1) (by omega) (by omega)
    rw [tab_succ] at h1
    have hw : wrap64 ((i : Int) + 1) = ((i + 1 : Nat) : Int) := by rw [wrap_id (by omega) (by omega)]; omega
    have hx : wrap64 (wrap64 (((tableN n gs).length : Int) - 1) - (i : Int)) = ((M - 1 - i : Nat) : Int) := by
      rw [hlen, wrap_id (i := (M : Int) - 1) (by omega) (by omega), wrap_id (by omega) (by omega)]; omega
    have hb : (!(rdOf false (tableN n gs) ((M - 1 - i : Nat) : Int))) = dualP n gs i := by
      rw [rdOf_nat]
      have := tableN_at (n := n) (gs := gs) (c := M - 1 - i) (by omega)
      unfold tb at this
      rw [this]
      unfold dualP
      rw [hM]
    refine Ev.step (fun k => ?_) h1
    simp only [spec_l01Dual.l0]
    rw [if_pos (by omega), hx, if_pos (by omega), if_pos (by omega), if_pos (by rw [tab_len]; omega), hb, hw]
theorem sdual_is (n : Nat) (hn : n ≤ 7) (gs : List (List Int)) (hs : Smalls gs) (hgl : ∀ g ∈ gs, g.length ≤ 9223372036854775807) (hl : gs.length ≤ 9223372036854775807) : Ev (fun k => spec_l01Dual.f k (n : Int) gs) ((n : Int), famN n (dualP n gs), (n : Int)) := by
  unfold spec_l01Dual.f
  refine Ev.bind (table_is n hn gs hs hgl hl) ?_
  have := sdual_loop n hn gs (2 ^ n) 0 (Nat.zero_le _) (Nat.sub_zero _)
  exact this
theorem l01Dual_calls (g : Nat) (n : Nat) (hn : n ≤ 7) (gs : List (List Int)) (hs : Smalls gs) (w0 w : World) (hI : IsS27 w0 w g (n : Int) gs) (hB : Below w0.heap.size w0 w) :
    Calls Try.prog 98 #[.pointer (some ⟨g, 0, none⟩)] w fun e w' => ∃ v, e = .returned (.agg #[.int .i64 (n : Int), v]) ∧ Kd.S dR 30 w' w.heap.size (fun _ => True) v (famN n (dualP n gs)) ∧ Below w0.heap.size w0 w' ∧ KeepBut w w' g none := by
  have hI' := hI
  obtain ⟨A, c, _, _, hC⟩ := hI'
  have hl := lens_of hC
  obtain ⟨k, hk⟩ := (sdual_is n hn gs hs hl.2 hl.1).rounds
  refine (spec_l01Dual.calls k g (n : Int) gs _ _ _ w0 w hI hB hk).mono ?_
  rintro e w' ⟨v, he, hs, _, hb, hk⟩
  exact ⟨v, he, hs, hb, hk⟩

set_option maxHeartbeats 2000000 in
theorem SDual_no (n : Int) (A : Option Addr) (cap : Nat) (gs : List (List Int)) (w : World) (hC : dR.C w A gs.length gs) (hcap : gs.length ≤ cap) (hv : ¬ ValidF n gs) :
    Calls Try.prog 53 #[.agg #[.int .i64 n, .slice A gs.length cap]] w (FamRes w 0 [] 1) := by
  have hu := Try.underlying27
  have HV := fun W h0 h1 h => ok_calls w.heap.size n A cap gs W h0 h1 h
  rw [decide_eq_false hv] at HV
  have HBX := Aside0.mk ((FamBox.new w n A cap gs 27 hC).later (below_alloc (Below.refl _ _) (.cells #[.int .i64 0, .slice none 0 0] 27)))
  clear hC hv
  go_enter Try.func53, Try.ntmps53
  go_wp2_with (go_at_call 93; refine (HV _ HBX.out.1 HBX.out.2.1 HBX.out.2.2).mono ?_; rintro e w1 ⟨rfl, hb1⟩; have HZ := Aside0.mk (blk_below (blk_at (k := w.heap.size + 1) (by simp)) hb1); have z0 : w1.cell? ⟨w.heap.size + 1, 0, none⟩ = some (.int .i64 0) := (blk_cell HZ.out 0).trans rfl; have z1 : w1.cell? ⟨w.heap.size + 1, 1, none⟩ = some (.slice none 0 0) := (blk_cell HZ.out 1).trans rfl; have f0 := blk_frozen HZ.out 0; have f1 := blk_frozen HZ.out 1; have HB := Aside0.mk hb1; clear hb1)
  have p0 := fun a b => put0 (a := a) (b := b) HZ.out
  have p1 := fun a b => put1 (a := a) (b := b) HZ.out
  refine bodyPost_ret (v := .tuple #[.agg #[.int .i64 0, .slice none 0 0], .int .i64 1]) (by simp [results, Try.results53, go_sem, p0, p1]) rfl ⟨_, rfl, S_nil _ _ _ _ _, ?_⟩
  exact below_set (below_set (below_then (below_alloc (below_alloc (Below.refl _ _) _) _) (by simp; omega) HB.out) (by omega)) (by omega)

set_option maxHeartbeats 2000000 in
theorem SDual_yes (n : Nat) (A : Option Addr) (cap : Nat) (gs : List (List Int)) (w : World) (hC : dR.C w A gs.length gs) (hcap : gs.length ≤ cap) (hv : ValidF (n : Int) gs) :
    Calls Try.prog 53 #[.agg #[.int .i64 (n : Int), .slice A gs.length cap]] w (FamRes w (n : Int) (famN n (dualP n gs)) 0) := by
  have hu := Try.underlying27
  have HV := fun W h0 h1 h => ok_calls w.heap.size (n : Int) A cap gs W h0 h1 h
  rw [decide_eq_true hv] at HV
  have HD := fun W hI hB => l01Dual_calls w.heap.size n (by have := hv.1; omega) gs (smalls_of hv) w W hI hB
  have HBX := Aside0.mk ((FamBox.new w (n : Int) A cap gs 27 hC).later (below_alloc (Below.refl _ _) (.cells #[.int .i64 0, .slice none 0 0] 27)))
  have HC := Aside0.mk hC
  clear hC hv
  generalize famN n (dualP n gs) = F at *
  go_enter Try.func53, Try.ntmps53
  go_wp2_with (first | (go_at_call 93; refine (HV _ HBX.out.1 HBX.out.2.1 HBX.out.2.2).mono ?_; rintro e w1 ⟨rfl, hb1⟩; have HZ := Aside0.mk (blk_below (blk_at (k := w.heap.size + 1) (by simp)) hb1); have HI := Aside0.mk (show IsS27 w w1 w.heap.size (n : Int) gs from ⟨A, cap, blk_below (blk_alloc (blk_new w (.cells #[.int .i64 (n : Int), .slice A gs.length cap] 27)) (.cells #[.int .i64 0, .slice none 0 0] 27)) hb1, Nat.le_refl _, HC.out⟩); have HB := Aside0.mk (below_then (B := w.heap.size) (below_alloc (below_alloc (Below.refl _ _) _) _) (by simp; omega) hb1); clear hb1) | (go_at_call 98; refine (HD _ HI.out HB.out).mono ?_; rintro e w2 ⟨v2, rfl, hs2, hb2, hk2⟩; have HZ2 := Aside0.mk (hk2.blk HZ.out (by omega) (by simp)); have z0 : w2.cell? ⟨w.heap.size + 1, 0, none⟩ = some (.int .i64 0) := (blk_cell HZ2.out 0).trans rfl; have z1 : w2.cell? ⟨w.heap.size + 1, 1, none⟩ = some (.slice none 0 0) := (blk_cell HZ2.out 1).trans rfl; have f0 := blk_frozen HZ2.out 0; have f1 := blk_frozen HZ2.out 1; obtain ⟨A2, c2, rfl⟩ := S_slice hs2; have HS := Aside0.mk hs2; have HB2 := Aside0.mk hb2; clear hs2 hb2 hk2))
  have p0 := fun a b => put0 (a := a) (b := b) HZ2.out
  have p1 := fun a b => put1 (a := a) (b := b) HZ2.out
  refine bodyPost_ret (v := .tuple #[.agg #[.int .i64 (n : Int), .slice A2 F.length c2], .int .i64 0]) (by simp [results, Try.results53, go_sem, p0, p1]) rfl ⟨_, rfl, S_put HZ2.out (S_lower HS.out HB.out.size), ?_⟩
  exact below_set (below_set HB2.out (by omega)) (by omega)
theorem SDual_calls (n : Int) (A : Option Addr) (cap : Nat) (gs : List (List Int)) (w : World) (hC : dR.C w A gs.length gs) (hcap : gs.length ≤ cap) :
    Calls Try.prog 53 #[.agg #[.int .i64 n, .slice A gs.length cap]] w (FamRes w (DualF n gs).1 (DualF n gs).2.1 (DualF n gs).2.2) := by
  unfold DualF
  by_cases hv : ValidF n gs
  · rw [if_pos hv]
    obtain ⟨m, rfl⟩ : ∃ m : Nat, n = (m : Int) := ⟨n.toNat, by have := hv.1; omega⟩
    rw [Int.toNat_natCast]
    exact SDual_yes m A cap gs w hC hcap hv
  · rw [if_neg hv]
    exact SDual_no n A cap gs w hC hcap hv

end Go.Proofs.Ytmeaffkgnmgmeaa.SDual
