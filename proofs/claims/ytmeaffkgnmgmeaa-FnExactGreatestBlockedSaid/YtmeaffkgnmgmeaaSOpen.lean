/- Contracts of the reference's OpeningGroups and GreatestBlocked. -/
import Derived.Test.YtmeaffkgnmgmeaaOk
import Derived.Test.YtmeaffkgnmgmeaaOpening
namespace Go.Proofs.Ytmeaffkgnmgmeaa.SOpen
open Go.RowKit Go.Lib Go.Proofs Go.Proofs.YtmeaffkgnmgmeaaW.PrintWords Go.Proofs.YtmeaffkgnmgmeaaW.PrintWords.Kd Go.Proofs.YtmeaffkgnmgmeaaW.PrintLast Go.Proofs.YtmeaffkgnmgmeaaW.PrintMore Go.Proofs.Ytmeaffkgnmgmeaa.G Go.Proofs.Ytmeaffkgnmgmeaa.Fam Go.Proofs.Ytmeaffkgnmgmeaa.Loops Go.Proofs.Ytmeaffkgnmgmeaa.Bits Go.Proofs.Ytmeaffkgnmgmeaa.Sorting Go.Proofs.Ytmeaffkgnmgmeaa.Crowds Go.Proofs.Ytmeaffkgnmgmeaa.Sorted Go.Proofs.Ytmeaffkgnmgmeaa.Idx Go.Proofs.Ytmeaffkgnmgmeaa.Valid Go.Proofs.Ytmeaffkgnmgmeaa.FamLaw Go.Proofs.Ytmeaffkgnmgmeaa.Opens Go.Proofs.Ytmeaffkgnmgmeaa.Ops Go.Proofs.Ytmeaffkgnmgmeaa.From Go.Proofs.Ytmeaffkgnmgmeaa.Ref Go.Proofs.Ytmeaffkgnmgmeaa.Ok Go.Proofs.Ytmeaffkgnmgmeaa.Opening
set_option linter.unusedVariables false
set_option linter.unusedSimpArgs false

theorem l01Table_calls (g : Nat) (n : Nat) (hn : n ≤ 7) (gs : List (List Int)) (hs : Smalls gs) (w0 w : World) (hI : IsS27 w0 w g (n : Int) gs) (hB : Below w0.heap.size w0 w) :
    Calls Try.prog 81 #[.pointer (some ⟨g, 0, none⟩)] w fun e w' => ∃ T c, e = .returned (.slice T (2 ^ n) c) ∧ 2 ^ n ≤ c ∧ Kd.C Kd.bool w' T (2 ^ n) (tableN n gs) ∧ IsS27 w0 w' g (n : Int) gs ∧ Below w0.heap.size w0 w' ∧ KeepBut w w' g none := by
  have hI' := hI
  obtain ⟨A, c, _, _, hC⟩ := hI'
  have hl := lens_of hC
  obtain ⟨k, hk⟩ := (table_is n hn gs hs hl.2 hl.1).rounds
  refine (spec_l01Table.calls k g (n : Int) gs _ _ w0 w hI hB hk).mono ?_
  rintro e w' ⟨v, rfl, hr, hi, hb, hk⟩
  obtain ⟨T, cT, rfl, hc, hCT⟩ := R_reads hr
  rw [tableN_len] at hc hCT ⊢
  exact ⟨T, cT, rfl, hc, hCT, hi, hb, hk⟩
theorem tab_cell {W : World} {T : Option Addr} {M : Nat} {l : List Bool} (h : Kd.C Kd.bool W T M l) {i : Nat} (hi : i < M) : ∃ ad, T = some ad ∧ W.cell? (ad.add i) = some (.bool (tb l i)) := by
  obtain rfl := h.1
  exact table_at h hi

set_option maxHeartbeats 2000000 in
theorem SOpening_no (n : Int) (A : Option Addr) (cap : Nat) (gs : List (List Int)) (w : World) (hC : dR.C w A gs.length gs) (hcap : gs.length ≤ cap) (hv : ¬ ValidF n gs) :
    Calls Try.prog 47 #[.agg #[.int .i64 n, .slice A gs.length cap]] w (RowsRes w [] 1) := by
  have hu := Try.underlying27
  have HV := fun W h0 h1 h => ok_calls w.heap.size n A cap gs W h0 h1 h
  rw [decide_eq_false hv] at HV
  have HBX := Aside0.mk (FamBox.new w n A cap gs 27 hC)
  clear hC hv
  go_enter Try.func47, Try.ntmps47
  go_wp2_with (go_at_call 93; refine (HV _ HBX.out.1 HBX.out.2.1 HBX.out.2.2).mono ?_; rintro e w1 ⟨rfl, hb1⟩; have HB := Aside0.mk (below_then (B := w.heap.size) (below_alloc (Below.refl _ _) _) (by simp) hb1); clear hb1)
  refine bodyPost_ret (v := .tuple #[.slice (some ⟨w1.heap.size, 0, none⟩) 0 0, .int .i64 1]) (by simp [results, Try.results47, go_sem]) rfl ⟨_, rfl, S_empty dR _ w1 _ HB.out.size, HB.out.alloc HB.out.size _⟩

set_option maxHeartbeats 8000000 in
theorem SOpening_yes (n : Nat) (A : Option Addr) (cap : Nat) (gs : List (List Int)) (w : World) (hC : dR.C w A gs.length gs) (hcap : gs.length ≤ cap) (hv : ValidF (n : Int) gs) :
    Calls Try.prog 47 #[.agg #[.int .i64 (n : Int), .slice A gs.length cap]] w (RowsRes w (crowdsN n (openN gs)) 0) := by
  have hu := Try.underlying27
  have hut := Try.underlying25
  have hn : n ≤ 7 := by have := hv.1; omega
  have h7 : 2 ^ n ≤ 128 := two_pow_le hn
  have HV := fun W h0 h1 h => ok_calls w.heap.size (n : Int) A cap gs W h0 h1 h
  rw [decide_eq_true hv] at HV
  have HTB := fun W hI hB => l01Table_calls w.heap.size n hn gs (smalls_of hv) w W hI hB
  have HBX := Aside0.mk (FamBox.new w (n : Int) A cap gs 27 hC)
  have HC := Aside0.mk hC
  have HAT := Aside0.mk (fun c (hc : c < 2 ^ n) => tableN_at (gs := gs) hc)
  have HLN := Aside0.mk (crowds_list n (openN gs) hn)
  have HLL := Aside0.mk (crowds_len n (openN gs) hn)
  clear hC hv
  unfold crowdsN
  generalize hM : 2 ^ n = M at *
  have HM := Aside0.mk hM
  clear hM
  go_enter Try.func47, Try.ntmps47
  go_wp2_with (first | (go_at_call 93; refine (HV _ HBX.out.1 HBX.out.2.1 HBX.out.2.2).mono ?_; rintro e w1 ⟨rfl, hb1⟩; have HI := Aside0.mk (show IsS27 w w1 w.heap.size (n : Int) gs from ⟨A, cap, blk_below (blk_new w (.cells #[.int .i64 (n : Int), .slice A gs.length cap] 27)) hb1, Nat.le_refl _, HC.out⟩); have HB := Aside0.mk (below_then (B := w.heap.size) (below_alloc (Below.refl _ _) _) (by simp) hb1); clear hb1) | (go_at_call 81; refine (HTB _ HI.out HB.out).mono ?_; rintro e w2 ⟨T, cT, rfl, hcT, hCT, _, hb2, _⟩; have HT := Aside0.mk hCT; have HB2 := Aside0.mk hb2; clear hb2 hCT))
  go_loopg [5, 6] M (fun gg v5 v6 wr => ∃ (c : Nat) (u : Value), c ≤ M ∧ M - c ≤ gg ∧ v6 = .int .i64 (c : Int) ∧ u = v5 ∧ Aside0 (Kd.S dR 30 wr w2.heap.size (fun _ => True) u (((List.range c).filter (openN gs)).map groupN)) ∧ Aside0 (Below w2.heap.size w2 wr))
  case atStart => exact ⟨0, _, Nat.zero_le _, by omega, rfl, rfl, ⟨S_empty dR _ w2 _ (Nat.le_refl _)⟩, ⟨below_alloc (Below.refl _ _) _⟩⟩
  case round =>
    obtain ⟨c, u, hcM, hgg, rfl, rfl, HS, HBR⟩ := hrel
    by_cases hlt : c < M
    · have hltz : (c : Int) < (M : Int) := by omega
      have hc128 : c < 128 := by omega
      obtain ⟨ad, rfl, hc0⟩ := tab_cell (Kd.C_below HT.out HBR.out) hlt
      rw [HAT.out c hlt] at hc0
      cases hq : openN gs c with
      | false =>
        rw [hq] at hc0
        have HQ := Aside0.mk hq
        clear hq
        go_wp2_with (fail)
        go_roundg (M - (c + 1))
        case measure => omega
        case rel =>
          refine ⟨c + 1, _, by omega, by omega, by go_num, rfl, ⟨?_⟩, HBR⟩
          rw [filter_step, HQ.out, if_neg (by simp), List.append_nil]
          exact HS.out
      | true =>
        rw [hq] at hc0
        have HQ := Aside0.mk hq
        clear hq
        have hlen := filter_len (openN gs) c
        generalize hL : ((List.range c).filter (openN gs)).map groupN = L at *
        have HLX := Aside0.mk hL
        clear hL
        have Hlen := Aside0.mk hlen
        clear hlen
        go_wp2_with (first | (go_at_call 94; refine (of_calls c hc128 _).mono ?_; rintro e w3 ⟨v3, rfl, hr3, hb3⟩; obtain ⟨A3, c3, rfl⟩ := R_slice hr3; have HR3 := Aside0.mk hr3; have HB3 := Aside0.mk hb3; clear hr3 hb3) | (at_builtin; refine S_append dR (w0 := w2) (W := w3) w2.heap.size rfl (.tmp 22) (.tmp 25) 25 30 (.slice none 0 0) 24 rfl hut infoR rfl (by decide) (by decide) u L (groupN c) [.slice A3 (groupN c).length c3] (fun _ => True) (fun k => wr.heap.size ≤ k) rfl rfl ?h1 ?h2 ?h3 ?h4 ?h5 ?h6 ?h7 ?_; (case h1 => exact ⟨_, rfl, R_mono (R_lower (R_bound HR3.out) HBR.out.size) (fun k hk => hk.2.1)⟩); (case h2 => exact fun k hk => ⟨trivial, fun e => by have := S_lt HS.out k e.symm; omega⟩); (case h3 => exact fun _ _ => trivial); (case h4 => exact S_mono (S_old HS.out HB3.out) (fun k hk => ⟨trivial, by have := hk.2; omega⟩)); (case h5 => exact below_then HBR.out HBR.out.size HB3.out); (case h6 => exact Nat.le_trans HBR.out.size HB3.out.size); (case h7 => have := Hlen.out; omega); intro v4 w4 hS4 hB4 hg4 hat4; have HS4 := Aside0.mk hS4; have HB4 := Aside0.mk hB4; clear hS4 hB4 hg4 hat4))
        go_roundg (M - (c + 1))
        case measure => omega
        case rel =>
          refine ⟨c + 1, _, by omega, by omega, by go_num, rfl, ⟨?_⟩, HB4⟩
          rw [filter_step, HQ.out, if_pos rfl, HLX.out]
          exact HS4.out
    · have hltz : ¬ (c : Int) < (M : Int) := by omega
      obtain rfl : c = M := by omega
      have hlen62 : (((List.range c).filter (openN gs)).map groupN).length < 4611686018427387904 := by have := HLL.out; omega
      have hS := sorted_calls w2.heap.size (fun _ => True) u _ wr HS.out hlen62
      have HG := Aside0.mk (fun k (hk : u.ownBlock = some k) => S_base HS.out k hk)
      go_wp2_with (go_at_call 95; refine hS.mono ?_; rintro e w5 ⟨rfl, hS', hg'⟩)
      go_ret2
      exact ⟨_, rfl, S_lower hS' HB2.out.size, below_then HB2.out HB2.out.size (pw_below_grown HBR.out _ HBR.out.size hg' (fun k hk => HG.out k hk))⟩
theorem SOpening_calls (n : Int) (A : Option Addr) (cap : Nat) (gs : List (List Int)) (w : World) (hC : dR.C w A gs.length gs) (hcap : gs.length ≤ cap) :
    Calls Try.prog 47 #[.agg #[.int .i64 n, .slice A gs.length cap]] w (RowsRes w (OpeningF n gs).1 (OpeningF n gs).2) := by
  unfold OpeningF
  by_cases hv : ValidF n gs
  · rw [if_pos hv]
    obtain ⟨m, rfl⟩ : ∃ m : Nat, n = (m : Int) := ⟨n.toNat, by have := hv.1; omega⟩
    rw [Int.toNat_natCast]
    exact SOpening_yes m A cap gs w hC hcap hv
  · rw [if_neg hv]
    exact SOpening_no n A cap gs w hC hcap hv

/-! ### the greatest blocked groups -/
/-- So far each holder below h that is not in c would open. -/
def mostN (gs : List (List Int)) (c h : Nat) : Bool := !openN gs c && (List.range h).all fun i => c.testBit i || openN gs (c ||| 1 <<< i)
theorem mostN_step (gs : List (List Int)) (c h : Nat) : mostN gs c (h + 1) = (mostN gs c h && (c.testBit h || openN gs (c ||| 1 <<< h))) := by
  unfold mostN
  rw [List.range_succ, List.all_append, ← Bool.and_assoc]
  simp
theorem mostN_zero (gs : List (List Int)) (c : Nat) : mostN gs c 0 = !openN gs c := by simp [mostN]
theorem mostN_is (gs : List (List Int)) (c n : Nat) : mostN gs c n = blockedP n gs c := rfl
theorem mostN_false (gs : List (List Int)) (c h n : Nat) (hn : h ≤ n) (h0 : mostN gs c h = false) : blockedP n gs c = false := by
  rw [← mostN_is]
  induction n with
  | zero => rw [show h = 0 by omega] at h0; exact h0
  | succ m ih =>
    by_cases e : h = m + 1
    · rw [← e]; exact h0
    · rw [mostN_step, ih (by omega)]; rfl
theorem or_w_all : ∀ h : Fin 7, ∀ c : Fin 128, Go.bits .or .i64 ((c.val : Nat) : Int) (wrap64 (2 ^ h.val)) = ((c.val ||| 1 <<< h.val : Nat) : Int) := by decide +kernel
theorem or_w {c h : Nat} (hc : c < 128) (hh : h < 7) : Go.bits .or .i64 (c : Int) (wrap64 (2 ^ h)) = ((c ||| 1 <<< h : Nat) : Int) := or_w_all ⟨h, hh⟩ ⟨c, hc⟩
theorem or_lt3 {n c h : Nat} (hc : c < 2 ^ n) (hh : h < n) : c ||| 1 <<< h < 2 ^ n := by
  apply Nat.or_lt_two_pow hc
  rw [Nat.one_shiftLeft]
  exact Nat.pow_lt_pow_right (by omega) hh
theorem hold_of {w0 W : World} {g : Nat} {n : Int} {gs : List (List Int)} (h : IsS27 w0 W g n gs) : W.cell? ⟨g, 0, none⟩ = some (.int .i64 n) := by
  obtain ⟨A, c, hb, _⟩ := h
  exact (blk_cell hb 0).trans rfl

set_option maxHeartbeats 2000000 in
theorem SBlocked_no (n : Int) (A : Option Addr) (cap : Nat) (gs : List (List Int)) (w : World) (hC : dR.C w A gs.length gs) (hcap : gs.length ≤ cap) (hv : ¬ ValidF n gs) :
    Calls Try.prog 52 #[.agg #[.int .i64 n, .slice A gs.length cap]] w (RowsRes w [] 1) := by
  have hu := Try.underlying27
  have HV := fun W h0 h1 h => ok_calls w.heap.size n A cap gs W h0 h1 h
  rw [decide_eq_false hv] at HV
  have HBX := Aside0.mk (FamBox.new w n A cap gs 27 hC)
  clear hC hv
  go_enter Try.func52, Try.ntmps52
  go_wp2_with (go_at_call 93; refine (HV _ HBX.out.1 HBX.out.2.1 HBX.out.2.2).mono ?_; rintro e w1 ⟨rfl, hb1⟩; have HB := Aside0.mk (below_then (B := w.heap.size) (below_alloc (Below.refl _ _) _) (by simp) hb1); clear hb1)
  refine bodyPost_ret (v := .tuple #[.slice (some ⟨w1.heap.size, 0, none⟩) 0 0, .int .i64 1]) (by simp [results, Try.results52, go_sem]) rfl ⟨_, rfl, S_empty dR _ w1 _ HB.out.size, HB.out.alloc HB.out.size _⟩

set_option maxHeartbeats 8000000 in
theorem SBlocked_yes (n : Nat) (A : Option Addr) (cap : Nat) (gs : List (List Int)) (w : World) (hC : dR.C w A gs.length gs) (hcap : gs.length ≤ cap) (hv : ValidF (n : Int) gs) :
    Calls Try.prog 52 #[.agg #[.int .i64 (n : Int), .slice A gs.length cap]] w (RowsRes w (crowdsN n (blockedP n gs)) 0) := by
  have hu := Try.underlying27
  have hut := Try.underlying25
  have hn : n ≤ 7 := by have := hv.1; omega
  have h7 : 2 ^ n ≤ 128 := two_pow_le hn
  have HV := fun W h0 h1 h => ok_calls w.heap.size (n : Int) A cap gs W h0 h1 h
  rw [decide_eq_true hv] at HV
  have HTB := fun W hI hB => l01Table_calls w.heap.size n hn gs (smalls_of hv) w W hI hB
  have HBX := Aside0.mk (FamBox.new w (n : Int) A cap gs 27 hC)
  have HC := Aside0.mk hC
  have HAT := Aside0.mk (fun c (hc : c < 2 ^ n) => tableN_at (gs := gs) hc)
  have HOR := Aside0.mk (fun c h (hc : c < 2 ^ n) (hh : h < n) => or_lt3 hc hh)
  have HLN := Aside0.mk (crowds_list n (blockedP n gs) hn)
  have HLL := Aside0.mk (crowds_len n (blockedP n gs) hn)
  clear hC hv
  unfold crowdsN
  generalize hM : 2 ^ n = M at *
  have HM := Aside0.mk hM
  clear hM
  go_enter Try.func52, Try.ntmps52
  go_wp2_with (first | (go_at_call 93; refine (HV _ HBX.out.1 HBX.out.2.1 HBX.out.2.2).mono ?_; rintro e w1 ⟨rfl, hb1⟩; have HI := Aside0.mk (show IsS27 w w1 w.heap.size (n : Int) gs from ⟨A, cap, blk_below (blk_new w (.cells #[.int .i64 (n : Int), .slice A gs.length cap] 27)) hb1, Nat.le_refl _, HC.out⟩); have HB := Aside0.mk (below_then (B := w.heap.size) (below_alloc (Below.refl _ _) _) (by simp) hb1); clear hb1) | (go_at_call 81; refine (HTB _ HI.out HB.out).mono ?_; rintro e w2 ⟨T, cT, rfl, hcT, hCT, hi2, hb2, _⟩; have HT := Aside0.mk hCT; have HB2 := Aside0.mk hb2; have HG2 := Aside0.mk (hold_of hi2); clear hb2 hCT hi2))
  go_loopg [5, 6, 7, 8] M (fun gg v5 v6 _ _ wr => ∃ (c : Nat) (u : Value), c ≤ M ∧ M - c ≤ gg ∧ v6 = .int .i64 (c : Int) ∧ u = v5 ∧ Aside0 (Kd.S dR 30 wr w2.heap.size (fun _ => True) u (((List.range c).filter (blockedP n gs)).map groupN)) ∧ Aside0 (Below w2.heap.size w2 wr))
  case atStart => exact ⟨0, _, Nat.zero_le _, by omega, rfl, rfl, ⟨S_empty dR _ w2 _ (Nat.le_refl _)⟩, ⟨below_alloc (Below.refl _ _) _⟩⟩
  case round =>
    obtain ⟨c, u, hcM, hgg, rfl, rfl, HS, HBR⟩ := hrel
    by_cases hlt : c < M
    · have hltz : (c : Int) < (M : Int) := by omega
      have hc128 : c < 128 := by omega
      obtain ⟨ad, rfl, hc0⟩ := tab_cell (Kd.C_below HT.out HBR.out) hlt
      rw [HAT.out c hlt] at hc0
      have hg0 := pw_cell_below HBR.out HG2.out
      obtain ⟨W3, hW3⟩ : ∃ W3, W3 = wr := ⟨_, rfl⟩
      go_wp2_with (fail)
      go_loopg [7, 8] n (fun g2 v7 v8 w2' => ∃ (h : Nat) (b : Bool), h ≤ n ∧ n - h ≤ g2 ∧ v7 = .bool b ∧ v8 = .int .i64 (h : Int) ∧ Aside0 (b = mostN gs c h) ∧ w2' = W3)
      case atStart => exact ⟨0, _, Nat.zero_le _, by omega, rfl, rfl, ⟨(mostN_zero gs c).symm⟩, hW3.symm⟩
      case round =>
        subst hW3
        obtain ⟨h, b, hhn, hg2, rfl, rfl, HBb, rfl⟩ := hrel
        by_cases hlt2 : h < n
        · have hlt2z : (h : Int) < (n : Int) := by omega
          cases b with
          | false =>
            have HF := Aside0.mk (mostN_false gs c h n hhn HBb.out.symm)
            go_wp2_with (fail)
            go_roundg (M - (c + 1))
            case measure => omega
            case rel =>
              refine ⟨c + 1, _, by omega, by omega, by go_num, rfl, ⟨?_⟩, HBR⟩
              rw [filter_step, HF.out, if_neg (by simp), List.append_nil]
              exact HS.out
          | true =>
            have hbit := bit_is hc128 (show h < 7 by omega)
            cases ht : c.testBit h with
            | true =>
              rw [ht, if_pos rfl] at hbit
              have HT1 := Aside0.mk ht
              clear ht
              go_wp2_with (fail)
              go_roundg (n - (h + 1))
              case measure => omega
              case rel => exact ⟨h + 1, true, by omega, by omega, rfl, by go_num, ⟨by rw [mostN_step, ← HBb.out, HT1.out]; rfl⟩, rfl⟩
            | false =>
              rw [ht, if_neg (by simp)] at hbit
              have hd := or_w hc128 (show h < 7 by omega)
              have hdl := HOR.out c h hlt hlt2
              have HT1 := Aside0.mk ht
              clear ht
              obtain ⟨ad', e', hc1⟩ := tab_cell (Kd.C_below HT.out HBR.out) hdl
              rw [HAT.out _ hdl] at hc1
              obtain rfl : ad = ad' := by injection e'
              clear e'
              generalize hD : c ||| 1 <<< h = d at *
              have HD := Aside0.mk hD
              clear hD
              have hdz : (d : Int) < (M : Int) := by omega
              cases hq : openN gs d with
              | true =>
                rw [hq] at hc1
                have HQ := Aside0.mk hq
                clear hq
                go_wp2_with (fail)
                go_roundg (n - (h + 1))
                case measure => omega
                case rel => exact ⟨h + 1, true, by omega, by omega, rfl, by go_num, ⟨by rw [mostN_step, ← HBb.out, HT1.out, HD.out, HQ.out]; rfl⟩, rfl⟩
              | false =>
                rw [hq] at hc1
                have HQ := Aside0.mk hq
                clear hq
                go_wp2_with (fail)
                go_roundg (n - (h + 1))
                case measure => omega
                case rel => exact ⟨h + 1, false, by omega, by omega, rfl, by go_num, ⟨by rw [mostN_step, ← HBb.out, HT1.out, HD.out, HQ.out]; rfl⟩, rfl⟩
        · have hlt2z : ¬ (h : Int) < (n : Int) := by omega
          obtain rfl : h = n := by omega
          cases b with
          | false =>
            have HF := Aside0.mk (mostN_false gs c h h hhn HBb.out.symm)
            go_wp2_with (fail)
            go_roundg (M - (c + 1))
            case measure => omega
            case rel =>
              refine ⟨c + 1, _, by omega, by omega, by go_num, rfl, ⟨?_⟩, HBR⟩
              rw [filter_step, HF.out, if_neg (by simp), List.append_nil]
              exact HS.out
          | true =>
            have HF := Aside0.mk (HBb.out.trans (mostN_is gs c h)).symm
            have hlen := filter_len (blockedP h gs) c
            generalize hLs : ((List.range c).filter (blockedP h gs)).map groupN = Ls at *
            have HLX := Aside0.mk hLs
            clear hLs
            have Hlen := Aside0.mk hlen
            clear hlen
            go_wp2_with (first | (go_at_call 94; refine (of_calls c hc128 _).mono ?_; rintro e w3 ⟨v3, rfl, hr3, hb3⟩; obtain ⟨A3, c3, rfl⟩ := R_slice hr3; have HR3 := Aside0.mk hr3; have HB3 := Aside0.mk hb3; clear hr3 hb3) | (at_builtin; refine S_append dR (w0 := w2) (W := w3) w2.heap.size rfl (.tmp 52) (.tmp 55) 25 30 (.slice none 0 0) 24 rfl hut infoR rfl (by decide) (by decide) u Ls (groupN c) [.slice A3 (groupN c).length c3] (fun _ => True) (fun k => wr.heap.size ≤ k) rfl rfl ?h1 ?h2 ?h3 ?h4 ?h5 ?h6 ?h7 ?_; (case h1 => exact ⟨_, rfl, R_mono (R_lower (R_bound HR3.out) HBR.out.size) (fun k hk => hk.2.1)⟩); (case h2 => exact fun k hk => ⟨trivial, fun e => by have := S_lt HS.out k e.symm; omega⟩); (case h3 => exact fun _ _ => trivial); (case h4 => exact S_mono (S_old HS.out HB3.out) (fun k hk => ⟨trivial, by have := hk.2; omega⟩)); (case h5 => exact below_then HBR.out HBR.out.size HB3.out); (case h6 => exact Nat.le_trans HBR.out.size HB3.out.size); (case h7 => have := Hlen.out; omega); intro v4 w4 hS4 hB4 hg4 hat4; have HS4 := Aside0.mk hS4; have HB4 := Aside0.mk hB4; clear hS4 hB4 hg4 hat4))
            go_roundg (M - (c + 1))
            case measure => omega
            case rel =>
              refine ⟨c + 1, _, by omega, by omega, by go_num, rfl, ⟨?_⟩, HB4⟩
              rw [filter_step, HF.out, if_pos rfl, HLX.out]
              exact HS4.out
    · have hltz : ¬ (c : Int) < (M : Int) := by omega
      obtain rfl : c = M := by omega
      have hlen62 : (((List.range c).filter (blockedP n gs)).map groupN).length < 4611686018427387904 := by have := HLL.out; omega
      have hS := sorted_calls w2.heap.size (fun _ => True) u _ wr HS.out hlen62
      have HG := Aside0.mk (fun k (hk : u.ownBlock = some k) => S_base HS.out k hk)
      go_wp2_with (go_at_call 95; refine hS.mono ?_; rintro e w5 ⟨rfl, hS', hg'⟩)
      go_ret2
      exact ⟨_, rfl, S_lower hS' HB2.out.size, below_then HB2.out HB2.out.size (pw_below_grown HBR.out _ HBR.out.size hg' (fun k hk => HG.out k hk))⟩
theorem SBlocked_calls (n : Int) (A : Option Addr) (cap : Nat) (gs : List (List Int)) (w : World) (hC : dR.C w A gs.length gs) (hcap : gs.length ≤ cap) :
    Calls Try.prog 52 #[.agg #[.int .i64 n, .slice A gs.length cap]] w (RowsRes w (BlockedF n gs).1 (BlockedF n gs).2) := by
  unfold BlockedF
  by_cases hv : ValidF n gs
  · rw [if_pos hv]
    obtain ⟨m, rfl⟩ : ∃ m : Nat, n = (m : Int) := ⟨n.toNat, by have := hv.1; omega⟩
    rw [Int.toNat_natCast]
    exact SBlocked_yes m A cap gs w hC hcap hv
  · rw [if_neg hv]
    exact SBlocked_no n A cap gs w hC hcap hv

end Go.Proofs.Ytmeaffkgnmgmeaa.SOpen
