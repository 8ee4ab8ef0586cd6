/- The walk of FnExactGatherTable: with the contracts of all that it calls it answers true. -/
import Derived.Test.YtdahdeohmbadhaaExTC
namespace Go.Proofs.Ytdahdeohmbadhaa.ExGatherTable
open Go.RowKit Go.Lib Go.Proofs Go.Proofs.YtdahdeohmbadhaaW.PrintWords Go.Proofs.YtdahdeohmbadhaaW.PrintWords.Kd Go.Proofs.YtdahdeohmbadhaaW.PrintLast Go.Proofs.YtdahdeohmbadhaaW.PrintMore Go.Proofs.Ytdahdeohmbadhaa.G Go.Proofs.Ytdahdeohmbadhaa.Mark Go.Proofs.Ytdahdeohmbadhaa.MarkT Go.Proofs.Ytdahdeohmbadhaa.ExF Go.Proofs.Ytdahdeohmbadhaa.ExT Go.Proofs.Ytdahdeohmbadhaa.ExTC
set_option linter.unusedVariables false
set_option linter.unusedSimpArgs false

set_option maxHeartbeats 16000000 in
set_option maxRecDepth 100000 in
theorem walk (n0 : Int) (A1 : Option Addr) (c1 : Nat) (gs1 : List Int) (A2 : Option Addr) (c2 : Nat) (gs2 : List LRow) (rs2 : List Row) (hm2 : rs2 = gs2.map toR) (w : World) (hC1 : Kd.C (Kd.int .i64) w A1 gs1.length gs1) (hc1 : gs1.length ≤ c1) (hC2 : Kd.C lW w A2 gs2.length gs2) (hc2 : gs2.length ≤ c2) (r1 : Int) (rz : List Int) (r2 : List Row) (r3 : Int) (hr : (gs1.length ≤ 1048576) → (FewT gs2) → 1 + (rz.length : Int) + (totT r2 : Int) < 9223372036854775807)
    (HSP : (gs1.length ≤ 1048576) → (FewT gs2) → ∀ (W : World) (A1 : Option Addr) (c1 : Nat) (A2 : Option Addr) (c2 : Nat), Kd.C (Kd.int .i64) W A1 gs1.length gs1 → gs1.length ≤ c1 → Kd.C dW W A2 rs2.length rs2 → rs2.length ≤ c2 → Calls Try.prog 16 #[.int .i64 n0, .slice A1 gs1.length c1, .slice A2 rs2.length c2] W (TabRes W r1 rz r2 r3))
    (HIM : (gs1.length ≤ 1048576) → (FewT gs2) → ∀ (W : World) (A1 : Option Addr) (c1 : Nat) (A2 : Option Addr) (c2 : Nat), Kd.C (Kd.int .i64) W A1 gs1.length gs1 → gs1.length ≤ c1 → Kd.C dW W A2 rs2.length rs2 → rs2.length ≤ c2 → Calls Try.prog 19 #[.int .i64 n0, .slice A1 gs1.length c1, .slice A2 rs2.length c2] W (TabRes W r1 rz r2 r3)) :
    Calls Try.prog 3 #[.int .i64 n0, .slice A1 gs1.length c1, .slice A2 gs2.length c2] w fun e w' => e = .returned (.bool true) ∧ Below w.heap.size w w' := by
  have hu := Try.underlying27
  have HCA1 := Aside0.mk (fun W (hb : Below w.heap.size w W) => Kd.C_below hC1 hb)
  have HCP1 := Aside0.mk hc1
  have HCA2 := Aside0.mk (fun W (hb : Below w.heap.size w W) => Kd.C_below hC2 hb)
  have HCP2 := Aside0.mk hc2
  have HMP2 := Aside0.mk hm2
  have HRC := Aside0.mk hr
  have HSPC := Aside0.mk HSP
  have HIMC := Aside0.mk HIM
  clear hr HSP HIM hC1 hc1 hC2 hc2 hm2
  by_cases hlg1 : (1048576 : Int) < (gs1.length : Int)
  · have hld1 : decide ((1048576 : Int) < (gs1.length : Int)) = true := decide_eq_true hlg1
    have HB0 := Aside0.mk (show Below w.heap.size w w from Below.refl _ _)
    go_enter Try.func3, Try.ntmps3
    go_wp2_with (fail)
    go_ret
    exact ⟨rfl, HB0.out⟩
  · have hld1 : decide ((1048576 : Int) < (gs1.length : Int)) = false := decide_eq_false hlg1
    have HFL1 := Aside0.mk (show gs1.length ≤ 1048576 by omega)
    have HTT1 := Aside0.mk (show (gs1.length : Int) ≤ 1048576 by omega)
    clear hlg1
    have HSZ2 := fun W h3 h4 => szR_calls A2 c2 gs2 (1048576 : Int) (by omega) (by omega) W h3 h4
    by_cases hsz2 : (1048576 : Int) < ((sizeR gs2 : Nat) : Int)
    · rw [if_pos hsz2] at HSZ2
      have zneg2 : decide ((-1 : Int) < 0) = true := by decide
      clear hsz2
      have HB0 := Aside0.mk (show Below w.heap.size w w from Below.refl _ _)
      go_enter Try.func3, Try.ntmps3
      go_wp2_with (fail)
      (refine (HSZ2 _ (HCA2.out _ HB0.out) HCP2.out).mono ?_; skip; rintro e w1 ⟨rfl, hb⟩; have HB1 := Aside0.mk (below_then (B := w.heap.size) HB0.out HB0.out.size hb); have HO1 := Aside0.mk (show w.heap.size ≤ w1.heap.size by have h_ := hb.size; simpa using h_); clear hb)
      go_wp2_with (fail)
      go_ret
      exact ⟨rfl, HB1.out⟩
    · rw [if_neg hsz2] at HSZ2
      have HFW2 := Aside0.mk (fewR_of (a := (1048576 : Int)) (by omega) hsz2)
      obtain ⟨z2, hz2⟩ : ∃ z : Int, z = (1048576 : Int) - ((sizeR gs2 : Nat) : Int) := ⟨_, rfl⟩
      rw [← hz2] at HSZ2
      have ZL2 := Aside0.mk (show 0 ≤ z2 ∧ z2 ≤ 1048576 from by constructor <;> omega)
      have zn2 : decide (z2 < 0) = false := decide_eq_false (by have h_ := ZL2.out; omega)
      have HTT2 := Aside0.mk (show (totT rs2 : Int) ≤ 1048576 from by have h2_ := totR_of HMP2.out; unfold sizeR at *; omega)
      clear hz2 hsz2
      have HRB := Aside0.mk (HRC.out HFL1.out HFW2.out)
      have HSPA := Aside0.mk (HSPC.out HFL1.out HFW2.out)
      have HIMA := Aside0.mk (HIMC.out HFL1.out HFW2.out)
      clear HRC HSPC HIMC
      have HB0 := Aside0.mk (show Below w.heap.size w w from Below.refl _ _)
      go_enter Try.func3, Try.ntmps3
      go_wp2_with (fail)
      (refine (HSZ2 _ (HCA2.out _ HB0.out) HCP2.out).mono ?_; skip; rintro e w1 ⟨rfl, hb⟩; have HB1 := Aside0.mk (below_then (B := w.heap.size) HB0.out HB0.out.size hb); have HO1 := Aside0.mk (show w.heap.size ≤ w1.heap.size by have h_ := hb.size; simpa using h_); clear hb)
      go_wp2_with (fail)
      (refine (toL_calls A1 c1 gs1 HFL1.out _ (HCA1.out _ HB1.out) HCP1.out).mono ?_; skip; rintro e w2 ⟨v2, rfl, hs, hb⟩; obtain ⟨A2', c2', rfl⟩ := R_slice hs; have IT2_2 := Aside0.mk (ItmL.new' hs (lo := w1.heap.size) (by simp) (by have h_ := HB1.out.size; simpa using h_)); have HB2 := Aside0.mk (below_then (B := w.heap.size) HB1.out HB1.out.size hb); have HO2 := Aside0.mk (show w1.heap.size ≤ w2.heap.size by have h_ := hb.size; simpa using h_); clear hb hs)
      go_wp2_with (fail)
      (refine (toR_calls A2 c2 gs2 rs2 HMP2.out HFW2.out _ (HCA2.out _ HB2.out) HCP2.out).mono ?_; skip; rintro e w3 ⟨v3, rfl, hs, hb⟩; obtain ⟨A3', c3', rfl⟩ := S_slice hs; have IT3_3 := Aside0.mk (ItmS.new' hs (lo := w2.heap.size) (by simp) (by have h_ := HB2.out.size; simpa using h_)); have HB3 := Aside0.mk (below_then (B := w.heap.size) HB2.out HB2.out.size hb); have HO3 := Aside0.mk (show w2.heap.size ≤ w3.heap.size by have h_ := hb.size; simpa using h_); have IT2_3 := Aside0.mk (ItmL.below IT2_2.out hb); clear hb hs)
      go_wp2_with (fail)
      (refine (HSPA.out _ _ _ _ _ (ItmL.C IT2_3.out).2.2 (ItmL.C IT2_3.out).2.1 (ItmS.C IT3_3.out).2.2 (ItmS.C IT3_3.out).2.1).mono ?_; rintro e w4 ⟨u4, v4, rfl, hs1, hs, hb⟩; obtain ⟨B4', d4', rfl⟩ := R_slice hs1; obtain ⟨A4', c4', rfl⟩ := S_slice hs; have IT4_4 := Aside0.mk (ItmT.new' hs1 hs (lo := w3.heap.size) (by simp) (by have h_ := HB3.out.size; simpa using h_)); have HB4 := Aside0.mk (below_then (B := w.heap.size) HB3.out HB3.out.size hb); have HO4 := Aside0.mk (show w3.heap.size ≤ w4.heap.size by have h_ := hb.size; simpa using h_); have IT2_4 := Aside0.mk (ItmL.below IT2_3.out hb); have IT3_4 := Aside0.mk (ItmS.below IT3_3.out hb); clear hb hs hs1)
      clear IT2_4
      clear IT3_4
      have HB4a := Aside0.mk (show Below w.heap.size w (w4.alloc (.cells #[.int .i64 r1, .slice B4' rz.length d4', .slice A4' r2.length c4'] 27)) from HB4.out.alloc HB4.out.size _)
      have IT4_4a := Aside0.mk (ItmT.alloc IT4_4.out (.cells #[.int .i64 r1, .slice B4' rz.length d4', .slice A4' r2.length c4'] 27))
      have BW_4a := Aside0.mk (show (w4.alloc (.cells #[.int .i64 r1, .slice B4' rz.length d4', .slice A4' r2.length c4'] 27)).heap[w4.heap.size]? = some (.cells #[.int .i64 r1, .slice B4' rz.length d4', .slice A4' r2.length c4'] 27 (0, 0)) from by simpa using blk_new w4 (.cells #[.int .i64 r1, .slice B4' rz.length d4', .slice A4' r2.length c4'] 27))
      go_wp2_with (fail)
      (refine (toL_calls A1 c1 gs1 HFL1.out _ (HCA1.out _ HB4a.out) HCP1.out).mono ?_; skip; rintro e w5 ⟨v5, rfl, hs, hb⟩; obtain ⟨A5', c5', rfl⟩ := R_slice hs; have IT5_5 := Aside0.mk (ItmL.new' hs (lo := w4.heap.size + 1) (by simp) (by have h_ := HB4a.out.size; simpa using h_)); have HB5 := Aside0.mk (below_then (B := w.heap.size) HB4a.out HB4a.out.size hb); have HO5 := Aside0.mk (show w4.heap.size + 1 ≤ w5.heap.size by have h_ := hb.size; simpa using h_); have BW_5 := Aside0.mk (blk_below BW_4a.out hb); have IT4_5 := Aside0.mk (ItmT.below IT4_4a.out hb); clear hb hs)
      go_wp2_with (fail)
      (refine (toR_calls A2 c2 gs2 rs2 HMP2.out HFW2.out _ (HCA2.out _ HB5.out) HCP2.out).mono ?_; skip; rintro e w6 ⟨v6, rfl, hs, hb⟩; obtain ⟨A6', c6', rfl⟩ := S_slice hs; have IT6_6 := Aside0.mk (ItmS.new' hs (lo := w5.heap.size) (by simp) (by have h_ := HB5.out.size; simpa using h_)); have HB6 := Aside0.mk (below_then (B := w.heap.size) HB5.out HB5.out.size hb); have HO6 := Aside0.mk (show w5.heap.size ≤ w6.heap.size by have h_ := hb.size; simpa using h_); have BW_6 := Aside0.mk (blk_below BW_5.out hb); have IT4_6 := Aside0.mk (ItmT.below IT4_5.out hb); have IT5_6 := Aside0.mk (ItmL.below IT5_5.out hb); clear hb hs)
      go_wp2_with (fail)
      (refine (HIMA.out _ _ _ _ _ (ItmL.C IT5_6.out).2.2 (ItmL.C IT5_6.out).2.1 (ItmS.C IT6_6.out).2.2 (ItmS.C IT6_6.out).2.1).mono ?_; rintro e w7 ⟨u7, v7, rfl, hs1, hs, hb⟩; obtain ⟨B7', d7', rfl⟩ := R_slice hs1; obtain ⟨A7', c7', rfl⟩ := S_slice hs; have IT7_7 := Aside0.mk (ItmT.new' hs1 hs (lo := w6.heap.size) (by simp) (by have h_ := HB6.out.size; simpa using h_)); have HB7 := Aside0.mk (below_then (B := w.heap.size) HB6.out HB6.out.size hb); have HO7 := Aside0.mk (show w6.heap.size ≤ w7.heap.size by have h_ := hb.size; simpa using h_); have BW_7 := Aside0.mk (blk_below BW_6.out hb); have IT4_7 := Aside0.mk (ItmT.below IT4_6.out hb); have IT5_7 := Aside0.mk (ItmL.below IT5_6.out hb); have IT6_7 := Aside0.mk (ItmS.below IT6_6.out hb); clear hb hs hs1)
      have HB7a := Aside0.mk (show Below w.heap.size w (w7.alloc (.cells #[.int .i64 r1, .slice B7' rz.length d7', .slice A7' r2.length c7'] 27)) from HB7.out.alloc HB7.out.size _)
      have BW_7a := Aside0.mk (blk_alloc BW_7.out (.cells #[.int .i64 r1, .slice B7' rz.length d7', .slice A7' r2.length c7'] 27))
      have IT4_7a := Aside0.mk (ItmT.alloc IT4_7.out (.cells #[.int .i64 r1, .slice B7' rz.length d7', .slice A7' r2.length c7'] 27))
      have IT5_7a := Aside0.mk (ItmL.alloc IT5_7.out (.cells #[.int .i64 r1, .slice B7' rz.length d7', .slice A7' r2.length c7'] 27))
      have IT6_7a := Aside0.mk (ItmS.alloc IT6_7.out (.cells #[.int .i64 r1, .slice B7' rz.length d7', .slice A7' r2.length c7'] 27))
      have IT7_7a := Aside0.mk (ItmT.alloc IT7_7.out (.cells #[.int .i64 r1, .slice B7' rz.length d7', .slice A7' r2.length c7'] 27))
      have BG_7a := Aside0.mk (show (w7.alloc (.cells #[.int .i64 r1, .slice B7' rz.length d7', .slice A7' r2.length c7'] 27)).heap[w7.heap.size]? = some (.cells #[.int .i64 r1, .slice B7' rz.length d7', .slice A7' r2.length c7'] 27 (0, 0)) from by simpa using blk_new w7 (.cells #[.int .i64 r1, .slice B7' rz.length d7', .slice A7' r2.length c7'] 27))
      have xBW_0 : (w7.alloc (.cells #[.int .i64 r1, .slice B7' rz.length d7', .slice A7' r2.length c7'] 27)).cell? ⟨w4.heap.size, 0, none⟩ = some (.int .i64 r1) := (blk_cell BW_7a.out 0).trans rfl
      have xBW_1 : (w7.alloc (.cells #[.int .i64 r1, .slice B7' rz.length d7', .slice A7' r2.length c7'] 27)).cell? ⟨w4.heap.size, 1, none⟩ = some (.slice B4' rz.length d4') := (blk_cell BW_7a.out 1).trans rfl
      have xBW_2 : (w7.alloc (.cells #[.int .i64 r1, .slice B7' rz.length d7', .slice A7' r2.length c7'] 27)).cell? ⟨w4.heap.size, 2, none⟩ = some (.slice A4' r2.length c4') := (blk_cell BW_7a.out 2).trans rfl
      have xBG_0 : (w7.alloc (.cells #[.int .i64 r1, .slice B7' rz.length d7', .slice A7' r2.length c7'] 27)).cell? ⟨w7.heap.size, 0, none⟩ = some (.int .i64 r1) := (blk_cell BG_7a.out 0).trans rfl
      have xBG_1 : (w7.alloc (.cells #[.int .i64 r1, .slice B7' rz.length d7', .slice A7' r2.length c7'] 27)).cell? ⟨w7.heap.size, 1, none⟩ = some (.slice B7' rz.length d7') := (blk_cell BG_7a.out 1).trans rfl
      have xBG_2 : (w7.alloc (.cells #[.int .i64 r1, .slice B7' rz.length d7', .slice A7' r2.length c7'] 27)).cell? ⟨w7.heap.size, 2, none⟩ = some (.slice A7' r2.length c7') := (blk_cell BG_7a.out 2).trans rfl
      go_wp2_with (fail)
      have HEQ := eqT_calls r1 r1 _ _ rz _ _ r2 _ _ rz _ _ r2 _ (ItmT.C IT7_7a.out).1.2.2 (ItmT.C IT7_7a.out).1.2.1 (ItmT.C IT7_7a.out).2.2.2 (ItmT.C IT7_7a.out).2.2.1 (ItmT.C IT4_7a.out).1.2.2 (ItmT.C IT4_7a.out).1.2.1 (ItmT.C IT4_7a.out).2.2.2 (ItmT.C IT4_7a.out).2.2.1
      rw [decide_eq_true (show r1 = r1 ∧ rz = rz ∧ r2 = r2 from ⟨rfl, rfl, rfl⟩)] at HEQ
      (refine HEQ.mono ?_; clear xBW_0 xBW_1 xBW_2 xBG_0 xBG_1 xBG_2; rintro e w8 ⟨rfl, hb⟩; have HB8 := Aside0.mk (below_then (B := w.heap.size) HB7a.out HB7a.out.size hb); have HO8 := Aside0.mk (show w7.heap.size + 1 ≤ w8.heap.size by have h_ := hb.size; simpa using h_); have BW_8 := Aside0.mk (blk_below BW_7a.out hb); have BG_8 := Aside0.mk (blk_below BG_7a.out hb); have IT4_8 := Aside0.mk (ItmT.below IT4_7a.out hb); have IT5_8 := Aside0.mk (ItmL.below IT5_7a.out hb); have IT6_8 := Aside0.mk (ItmS.below IT6_7a.out hb); have IT7_8 := Aside0.mk (ItmT.below IT7_7a.out hb); clear hb HEQ)
      go_wp2_with (fail)
      (refine (toL_calls A1 c1 gs1 HFL1.out _ (HCA1.out _ HB8.out) HCP1.out).mono ?_; skip; rintro e w9 ⟨v9, rfl, hs, hb⟩; obtain ⟨A9', c9', rfl⟩ := R_slice hs; have IT9_9 := Aside0.mk (ItmL.new' hs (lo := w8.heap.size) (by simp) (by have h_ := HB8.out.size; simpa using h_)); have HB9 := Aside0.mk (below_then (B := w.heap.size) HB8.out HB8.out.size hb); have HO9 := Aside0.mk (show w8.heap.size ≤ w9.heap.size by have h_ := hb.size; simpa using h_); have BW_9 := Aside0.mk (blk_below BW_8.out hb); have BG_9 := Aside0.mk (blk_below BG_8.out hb); have IT4_9 := Aside0.mk (ItmT.below IT4_8.out hb); have IT5_9 := Aside0.mk (ItmL.below IT5_8.out hb); have IT6_9 := Aside0.mk (ItmS.below IT6_8.out hb); have IT7_9 := Aside0.mk (ItmT.below IT7_8.out hb); clear hb hs)
      go_wp2_with (fail)
      have HEQ := eqL_calls _ _ _ _ gs1 gs1 _ (ItmL.C IT5_9.out).2.2 (ItmL.C IT5_9.out).2.1 (ItmL.C IT9_9.out).2.2 (ItmL.C IT9_9.out).2.1
      rw [decide_eq_true (show gs1 = gs1 from rfl)] at HEQ
      (refine HEQ.mono ?_; rintro e w10 ⟨rfl, hb⟩; have HB10 := Aside0.mk (below_then (B := w.heap.size) HB9.out HB9.out.size hb); have HO10 := Aside0.mk (show w9.heap.size ≤ w10.heap.size by have h_ := hb.size; simpa using h_); have BW_10 := Aside0.mk (blk_below BW_9.out hb); have BG_10 := Aside0.mk (blk_below BG_9.out hb); have IT4_10 := Aside0.mk (ItmT.below IT4_9.out hb); have IT5_10 := Aside0.mk (ItmL.below IT5_9.out hb); have IT6_10 := Aside0.mk (ItmS.below IT6_9.out hb); have IT7_10 := Aside0.mk (ItmT.below IT7_9.out hb); have IT9_10 := Aside0.mk (ItmL.below IT9_9.out hb); clear hb HEQ)
      clear IT9_10
      go_wp2_with (fail)
      (refine (toR_calls A2 c2 gs2 rs2 HMP2.out HFW2.out _ (HCA2.out _ HB10.out) HCP2.out).mono ?_; skip; rintro e w11 ⟨v11, rfl, hs, hb⟩; obtain ⟨A11', c11', rfl⟩ := S_slice hs; have IT11_11 := Aside0.mk (ItmS.new' hs (lo := w10.heap.size) (by simp) (by have h_ := HB10.out.size; simpa using h_)); have HB11 := Aside0.mk (below_then (B := w.heap.size) HB10.out HB10.out.size hb); have HO11 := Aside0.mk (show w10.heap.size ≤ w11.heap.size by have h_ := hb.size; simpa using h_); have BW_11 := Aside0.mk (blk_below BW_10.out hb); have BG_11 := Aside0.mk (blk_below BG_10.out hb); have IT4_11 := Aside0.mk (ItmT.below IT4_10.out hb); have IT5_11 := Aside0.mk (ItmL.below IT5_10.out hb); have IT6_11 := Aside0.mk (ItmS.below IT6_10.out hb); have IT7_11 := Aside0.mk (ItmT.below IT7_10.out hb); clear hb hs)
      go_wp2_with (fail)
      have HEQ := eqR_calls _ _ _ _ rs2 rs2 _ (ItmS.C IT6_11.out).2.2 (ItmS.C IT6_11.out).2.1 (ItmS.C IT11_11.out).2.2 (ItmS.C IT11_11.out).2.1
      rw [decide_eq_true (show rs2 = rs2 from rfl)] at HEQ
      (refine HEQ.mono ?_; rintro e w12 ⟨rfl, hb⟩; have HB12 := Aside0.mk (below_then (B := w.heap.size) HB11.out HB11.out.size hb); have HO12 := Aside0.mk (show w11.heap.size ≤ w12.heap.size by have h_ := hb.size; simpa using h_); have BW_12 := Aside0.mk (blk_below BW_11.out hb); have BG_12 := Aside0.mk (blk_below BG_11.out hb); have IT4_12 := Aside0.mk (ItmT.below IT4_11.out hb); have IT5_12 := Aside0.mk (ItmL.below IT5_11.out hb); have IT6_12 := Aside0.mk (ItmS.below IT6_11.out hb); have IT7_12 := Aside0.mk (ItmT.below IT7_11.out hb); have IT11_12 := Aside0.mk (ItmS.below IT11_11.out hb); clear hb HEQ)
      clear IT11_12
      go_wp2_with (fail)
      obtain ⟨k13, hk13⟩ : ∃ k_ : Int, k_ = 1 + (gs1.length : Int) := ⟨_, rfl⟩
      have HM := markS_calls (fun k => w4.heap.size + 1 ≤ k ∧ k < w5.heap.size) _ gs1 1 (by have ht1_ := HTT1.out; omega) (by have ht1_ := HTT1.out; omega) w _ HB12.out IT5_12.out.s
      rw [← hk13] at HM
      have HKE13 := Aside0.mk hk13
      clear hk13
      (refine HM.mono ?_; skip; rintro e w13 ⟨rfl, hs, hb, hk⟩; have HB13 := Aside0.mk hb; have HO13 := Aside0.mk (show w12.heap.size ≤ w13.heap.size by have h_ := hk.1; simpa using h_); have BW_13 := Aside0.mk (blk_kept BW_12.out hk (fun h_ => by have o_HO1 := HO1.out; have o_HO2 := HO2.out; have o_HO3 := HO3.out; have o_HO4 := HO4.out; have o_HO5 := HO5.out; have o_HO6 := HO6.out; have o_HO7 := HO7.out; have o_HO8 := HO8.out; have o_HO9 := HO9.out; have o_HO10 := HO10.out; have o_HO11 := HO11.out; have o_HO12 := HO12.out; obtain ⟨h1_, h2_⟩ := h_; omega)); have BG_13 := Aside0.mk (blk_kept BG_12.out hk (fun h_ => by have o_HO1 := HO1.out; have o_HO2 := HO2.out; have o_HO3 := HO3.out; have o_HO4 := HO4.out; have o_HO5 := HO5.out; have o_HO6 := HO6.out; have o_HO7 := HO7.out; have o_HO8 := HO8.out; have o_HO9 := HO9.out; have o_HO10 := HO10.out; have o_HO11 := HO11.out; have o_HO12 := HO12.out; obtain ⟨h1_, h2_⟩ := h_; omega)); have IT4_13 := Aside0.mk (ItmT.kept IT4_12.out hk (fun k h_ h2_ => by have o_HO1 := HO1.out; have o_HO2 := HO2.out; have o_HO3 := HO3.out; have o_HO4 := HO4.out; have o_HO5 := HO5.out; have o_HO6 := HO6.out; have o_HO7 := HO7.out; have o_HO8 := HO8.out; have o_HO9 := HO9.out; have o_HO10 := HO10.out; have o_HO11 := HO11.out; have o_HO12 := HO12.out; obtain ⟨h3_, h4_⟩ := h_; obtain ⟨h5_, h6_⟩ := h2_; omega)); have IT6_13 := Aside0.mk (ItmS.kept IT6_12.out hk (fun k h_ h2_ => by have o_HO1 := HO1.out; have o_HO2 := HO2.out; have o_HO3 := HO3.out; have o_HO4 := HO4.out; have o_HO5 := HO5.out; have o_HO6 := HO6.out; have o_HO7 := HO7.out; have o_HO8 := HO8.out; have o_HO9 := HO9.out; have o_HO10 := HO10.out; have o_HO11 := HO11.out; have o_HO12 := HO12.out; obtain ⟨h3_, h4_⟩ := h_; obtain ⟨h5_, h6_⟩ := h2_; omega)); have IT7_13 := Aside0.mk (ItmT.kept IT7_12.out hk (fun k h_ h2_ => by have o_HO1 := HO1.out; have o_HO2 := HO2.out; have o_HO3 := HO3.out; have o_HO4 := HO4.out; have o_HO5 := HO5.out; have o_HO6 := HO6.out; have o_HO7 := HO7.out; have o_HO8 := HO8.out; have o_HO9 := HO9.out; have o_HO10 := HO10.out; have o_HO11 := HO11.out; have o_HO12 := HO12.out; obtain ⟨h3_, h4_⟩ := h_; obtain ⟨h5_, h6_⟩ := h2_; omega)); have IT5_13 := Aside0.mk (show ItmL w13 w.heap.size _ (upL gs1.length 1) (w4.heap.size + 1) (w5.heap.size) from ⟨hs, Nat.le_trans IT5_12.out.fit hk.1⟩); clear hb hs hk HM)
      go_wp2_with (fail)
      obtain ⟨k14, hk14⟩ : ∃ k_ : Int, k_ = k13 + (totT rs2 : Int) := ⟨_, rfl⟩
      have HM := markRowS_calls (fun k => w5.heap.size ≤ k ∧ k < w6.heap.size) _ rs2 k13 (by have hHKE13_ := HKE13.out; have ht1_ := HTT1.out; have ht2_ := HTT2.out; omega) (by have hHKE13_ := HKE13.out; have ht1_ := HTT1.out; have ht2_ := HTT2.out; omega) w _ HB13.out IT6_13.out.s
      rw [← hk14] at HM
      have HKE14 := Aside0.mk hk14
      clear hk14
      (refine HM.mono ?_; skip; rintro e w14 ⟨rfl, hs, hb, hk⟩; have HB14 := Aside0.mk hb; have HO14 := Aside0.mk (show w13.heap.size ≤ w14.heap.size by have h_ := hk.1; simpa using h_); have BW_14 := Aside0.mk (blk_kept BW_13.out hk (fun h_ => by have o_HO1 := HO1.out; have o_HO2 := HO2.out; have o_HO3 := HO3.out; have o_HO4 := HO4.out; have o_HO5 := HO5.out; have o_HO6 := HO6.out; have o_HO7 := HO7.out; have o_HO8 := HO8.out; have o_HO9 := HO9.out; have o_HO10 := HO10.out; have o_HO11 := HO11.out; have o_HO12 := HO12.out; have o_HO13 := HO13.out; obtain ⟨h1_, h2_⟩ := h_; omega)); have BG_14 := Aside0.mk (blk_kept BG_13.out hk (fun h_ => by have o_HO1 := HO1.out; have o_HO2 := HO2.out; have o_HO3 := HO3.out; have o_HO4 := HO4.out; have o_HO5 := HO5.out; have o_HO6 := HO6.out; have o_HO7 := HO7.out; have o_HO8 := HO8.out; have o_HO9 := HO9.out; have o_HO10 := HO10.out; have o_HO11 := HO11.out; have o_HO12 := HO12.out; have o_HO13 := HO13.out; obtain ⟨h1_, h2_⟩ := h_; omega)); have IT4_14 := Aside0.mk (ItmT.kept IT4_13.out hk (fun k h_ h2_ => by have o_HO1 := HO1.out; have o_HO2 := HO2.out; have o_HO3 := HO3.out; have o_HO4 := HO4.out; have o_HO5 := HO5.out; have o_HO6 := HO6.out; have o_HO7 := HO7.out; have o_HO8 := HO8.out; have o_HO9 := HO9.out; have o_HO10 := HO10.out; have o_HO11 := HO11.out; have o_HO12 := HO12.out; have o_HO13 := HO13.out; obtain ⟨h3_, h4_⟩ := h_; obtain ⟨h5_, h6_⟩ := h2_; omega)); have IT5_14 := Aside0.mk (ItmL.kept IT5_13.out hk (fun k h_ h2_ => by have o_HO1 := HO1.out; have o_HO2 := HO2.out; have o_HO3 := HO3.out; have o_HO4 := HO4.out; have o_HO5 := HO5.out; have o_HO6 := HO6.out; have o_HO7 := HO7.out; have o_HO8 := HO8.out; have o_HO9 := HO9.out; have o_HO10 := HO10.out; have o_HO11 := HO11.out; have o_HO12 := HO12.out; have o_HO13 := HO13.out; obtain ⟨h3_, h4_⟩ := h_; obtain ⟨h5_, h6_⟩ := h2_; omega)); have IT7_14 := Aside0.mk (ItmT.kept IT7_13.out hk (fun k h_ h2_ => by have o_HO1 := HO1.out; have o_HO2 := HO2.out; have o_HO3 := HO3.out; have o_HO4 := HO4.out; have o_HO5 := HO5.out; have o_HO6 := HO6.out; have o_HO7 := HO7.out; have o_HO8 := HO8.out; have o_HO9 := HO9.out; have o_HO10 := HO10.out; have o_HO11 := HO11.out; have o_HO12 := HO12.out; have o_HO13 := HO13.out; obtain ⟨h3_, h4_⟩ := h_; obtain ⟨h5_, h6_⟩ := h2_; omega)); have IT6_14 := Aside0.mk (show ItmS w14 w.heap.size _ (markT rs2 k13) (w5.heap.size) (w6.heap.size) from ⟨hs, Nat.le_trans IT6_13.out.fit hk.1⟩); clear hb hs hk HM)
      have kn : decide (k14 < 0) = false := decide_eq_false (by have hHKE13_ := HKE13.out; have hHKE14_ := HKE14.out; have ht1_ := HTT1.out; have ht2_ := HTT2.out; omega)
      have xBW_0 : w14.cell? ⟨w4.heap.size, 0, none⟩ = some (.int .i64 r1) := (blk_cell BW_14.out 0).trans rfl
      have xBW_1 : w14.cell? ⟨w4.heap.size, 1, none⟩ = some (.slice B4' rz.length d4') := (blk_cell BW_14.out 1).trans rfl
      have xBW_2 : w14.cell? ⟨w4.heap.size, 2, none⟩ = some (.slice A4' r2.length c4') := (blk_cell BW_14.out 2).trans rfl
      have xBG_0 : w14.cell? ⟨w7.heap.size, 0, none⟩ = some (.int .i64 r1) := (blk_cell BG_14.out 0).trans rfl
      have xBG_1 : w14.cell? ⟨w7.heap.size, 1, none⟩ = some (.slice B7' rz.length d7') := (blk_cell BG_14.out 1).trans rfl
      have xBG_2 : w14.cell? ⟨w7.heap.size, 2, none⟩ = some (.slice A7' r2.length c7') := (blk_cell BG_14.out 2).trans rfl
      go_wp2_with (fail)
      have HEQ := eqT_calls r1 r1 _ _ rz _ _ r2 _ _ rz _ _ r2 _ (ItmT.C IT7_14.out).1.2.2 (ItmT.C IT7_14.out).1.2.1 (ItmT.C IT7_14.out).2.2.2 (ItmT.C IT7_14.out).2.2.1 (ItmT.C IT4_14.out).1.2.2 (ItmT.C IT4_14.out).1.2.1 (ItmT.C IT4_14.out).2.2.2 (ItmT.C IT4_14.out).2.2.1
      rw [decide_eq_true (show r1 = r1 ∧ rz = rz ∧ r2 = r2 from ⟨rfl, rfl, rfl⟩)] at HEQ
      (refine HEQ.mono ?_; clear xBW_0 xBW_1 xBW_2 xBG_0 xBG_1 xBG_2; rintro e w15 ⟨rfl, hb⟩; have HB15 := Aside0.mk (below_then (B := w.heap.size) HB14.out HB14.out.size hb); have HO15 := Aside0.mk (show w14.heap.size ≤ w15.heap.size by have h_ := hb.size; simpa using h_); have BW_15 := Aside0.mk (blk_below BW_14.out hb); have BG_15 := Aside0.mk (blk_below BG_14.out hb); have IT4_15 := Aside0.mk (ItmT.below IT4_14.out hb); have IT5_15 := Aside0.mk (ItmL.below IT5_14.out hb); have IT6_15 := Aside0.mk (ItmS.below IT6_14.out hb); have IT7_15 := Aside0.mk (ItmT.below IT7_14.out hb); clear hb HEQ)
      clear kn
      have xBG_0 : w15.cell? ⟨w7.heap.size, 0, none⟩ = some (.int .i64 r1) := (blk_cell BG_15.out 0).trans rfl
      have xBG_1 : w15.cell? ⟨w7.heap.size, 1, none⟩ = some (.slice B7' rz.length d7') := (blk_cell BG_15.out 1).trans rfl
      have xBG_2 : w15.cell? ⟨w7.heap.size, 2, none⟩ = some (.slice A7' r2.length c7') := (blk_cell BG_15.out 2).trans rfl
      go_wp2_with (fail)
      obtain ⟨k16, hk16⟩ : ∃ k_ : Int, k_ = 1 + (rz.length : Int) + (totT r2 : Int) := ⟨_, rfl⟩
      have HM := markTable_calls w6.heap.size w7.heap.size r1 _ rz _ r2 1 (by decide) HRB.out w _ HB15.out IT7_15.out
      rw [← hk16] at HM
      have HKE16 := Aside0.mk hk16
      clear hk16
      (refine HM.mono ?_; clear xBG_0 xBG_1 xBG_2; rintro e w16 ⟨rfl, hs, hb, hk⟩; have HB16 := Aside0.mk hb; have HO16 := Aside0.mk (show w15.heap.size ≤ w16.heap.size by have h_ := hk.1; simpa using h_); have BW_16 := Aside0.mk (blk_kept BW_15.out hk (fun h_ => by have o_HO1 := HO1.out; have o_HO2 := HO2.out; have o_HO3 := HO3.out; have o_HO4 := HO4.out; have o_HO5 := HO5.out; have o_HO6 := HO6.out; have o_HO7 := HO7.out; have o_HO8 := HO8.out; have o_HO9 := HO9.out; have o_HO10 := HO10.out; have o_HO11 := HO11.out; have o_HO12 := HO12.out; have o_HO13 := HO13.out; have o_HO14 := HO14.out; have o_HO15 := HO15.out; obtain ⟨h1_, h2_⟩ := h_; omega)); have BG_16 := Aside0.mk (blk_kept BG_15.out hk (fun h_ => by have o_HO1 := HO1.out; have o_HO2 := HO2.out; have o_HO3 := HO3.out; have o_HO4 := HO4.out; have o_HO5 := HO5.out; have o_HO6 := HO6.out; have o_HO7 := HO7.out; have o_HO8 := HO8.out; have o_HO9 := HO9.out; have o_HO10 := HO10.out; have o_HO11 := HO11.out; have o_HO12 := HO12.out; have o_HO13 := HO13.out; have o_HO14 := HO14.out; have o_HO15 := HO15.out; obtain ⟨h1_, h2_⟩ := h_; omega)); have IT4_16 := Aside0.mk (ItmT.kept IT4_15.out hk (fun k h_ h2_ => by have o_HO1 := HO1.out; have o_HO2 := HO2.out; have o_HO3 := HO3.out; have o_HO4 := HO4.out; have o_HO5 := HO5.out; have o_HO6 := HO6.out; have o_HO7 := HO7.out; have o_HO8 := HO8.out; have o_HO9 := HO9.out; have o_HO10 := HO10.out; have o_HO11 := HO11.out; have o_HO12 := HO12.out; have o_HO13 := HO13.out; have o_HO14 := HO14.out; have o_HO15 := HO15.out; obtain ⟨h3_, h4_⟩ := h_; obtain ⟨h5_, h6_⟩ := h2_; omega)); have IT5_16 := Aside0.mk (ItmL.kept IT5_15.out hk (fun k h_ h2_ => by have o_HO1 := HO1.out; have o_HO2 := HO2.out; have o_HO3 := HO3.out; have o_HO4 := HO4.out; have o_HO5 := HO5.out; have o_HO6 := HO6.out; have o_HO7 := HO7.out; have o_HO8 := HO8.out; have o_HO9 := HO9.out; have o_HO10 := HO10.out; have o_HO11 := HO11.out; have o_HO12 := HO12.out; have o_HO13 := HO13.out; have o_HO14 := HO14.out; have o_HO15 := HO15.out; obtain ⟨h3_, h4_⟩ := h_; obtain ⟨h5_, h6_⟩ := h2_; omega)); have IT6_16 := Aside0.mk (ItmS.kept IT6_15.out hk (fun k h_ h2_ => by have o_HO1 := HO1.out; have o_HO2 := HO2.out; have o_HO3 := HO3.out; have o_HO4 := HO4.out; have o_HO5 := HO5.out; have o_HO6 := HO6.out; have o_HO7 := HO7.out; have o_HO8 := HO8.out; have o_HO9 := HO9.out; have o_HO10 := HO10.out; have o_HO11 := HO11.out; have o_HO12 := HO12.out; have o_HO13 := HO13.out; have o_HO14 := HO14.out; have o_HO15 := HO15.out; obtain ⟨h3_, h4_⟩ := h_; obtain ⟨h5_, h6_⟩ := h2_; omega)); have IT7_16 := Aside0.mk hs; clear hb hs hk HM)
      have kn : decide (k16 < 0) = false := decide_eq_false (by have h_ := HKE16.out; omega)
      have xBG_0 : w16.cell? ⟨w7.heap.size, 0, none⟩ = some (.int .i64 r1) := (blk_cell BG_16.out 0).trans rfl
      have xBG_1 : w16.cell? ⟨w7.heap.size, 1, none⟩ = some (.slice B7' rz.length d7') := (blk_cell BG_16.out 1).trans rfl
      have xBG_2 : w16.cell? ⟨w7.heap.size, 2, none⟩ = some (.slice A7' r2.length c7') := (blk_cell BG_16.out 2).trans rfl
      go_wp2_with (fail)
      have HM := heldT_at r1 _ _ rz _ _ r2 1 (by decide) HRB.out _ _ _ ⟨_, _, _, IT7_16.out⟩
      rw [← HKE16.out] at HM
      (refine HM.mono ?_; clear xBG_0 xBG_1 xBG_2; rintro e w17 ⟨rfl, hb⟩; have HB17 := Aside0.mk (below_then (B := w.heap.size) HB16.out HB16.out.size hb); have HO17 := Aside0.mk (show w16.heap.size ≤ w17.heap.size by have h_ := hb.size; simpa using h_); have BW_17 := Aside0.mk (blk_below BW_16.out hb); have BG_17 := Aside0.mk (blk_below BG_16.out hb); have IT4_17 := Aside0.mk (ItmT.below IT4_16.out hb); have IT5_17 := Aside0.mk (ItmL.below IT5_16.out hb); have IT6_17 := Aside0.mk (ItmS.below IT6_16.out hb); have IT7_17 := Aside0.mk (ItmT.below IT7_16.out hb); clear hb HM)
      go_wp2_with (fail)
      (refine (toL_calls A1 c1 gs1 HFL1.out _ (HCA1.out _ HB17.out) HCP1.out).mono ?_; skip; rintro e w18 ⟨v18, rfl, hs, hb⟩; obtain ⟨A18', c18', rfl⟩ := R_slice hs; have IT18_18 := Aside0.mk (ItmL.new' hs (lo := w17.heap.size) (by simp) (by have h_ := HB17.out.size; simpa using h_)); have HB18 := Aside0.mk (below_then (B := w.heap.size) HB17.out HB17.out.size hb); have HO18 := Aside0.mk (show w17.heap.size ≤ w18.heap.size by have h_ := hb.size; simpa using h_); have BW_18 := Aside0.mk (blk_below BW_17.out hb); have BG_18 := Aside0.mk (blk_below BG_17.out hb); have IT4_18 := Aside0.mk (ItmT.below IT4_17.out hb); have IT5_18 := Aside0.mk (ItmL.below IT5_17.out hb); have IT6_18 := Aside0.mk (ItmS.below IT6_17.out hb); have IT7_18 := Aside0.mk (ItmT.below IT7_17.out hb); clear hb hs)
      go_wp2_with (fail)
      (refine (toR_calls A2 c2 gs2 rs2 HMP2.out HFW2.out _ (HCA2.out _ HB18.out) HCP2.out).mono ?_; skip; rintro e w19 ⟨v19, rfl, hs, hb⟩; obtain ⟨A19', c19', rfl⟩ := S_slice hs; have IT19_19 := Aside0.mk (ItmS.new' hs (lo := w18.heap.size) (by simp) (by have h_ := HB18.out.size; simpa using h_)); have HB19 := Aside0.mk (below_then (B := w.heap.size) HB18.out HB18.out.size hb); have HO19 := Aside0.mk (show w18.heap.size ≤ w19.heap.size by have h_ := hb.size; simpa using h_); have BW_19 := Aside0.mk (blk_below BW_18.out hb); have BG_19 := Aside0.mk (blk_below BG_18.out hb); have IT4_19 := Aside0.mk (ItmT.below IT4_18.out hb); have IT5_19 := Aside0.mk (ItmL.below IT5_18.out hb); have IT6_19 := Aside0.mk (ItmS.below IT6_18.out hb); have IT7_19 := Aside0.mk (ItmT.below IT7_18.out hb); have IT18_19 := Aside0.mk (ItmL.below IT18_18.out hb); clear hb hs)
      go_wp2_with (fail)
      (refine (HIMA.out _ _ _ _ _ (ItmL.C IT18_19.out).2.2 (ItmL.C IT18_19.out).2.1 (ItmS.C IT19_19.out).2.2 (ItmS.C IT19_19.out).2.1).mono ?_; rintro e w20 ⟨u20, v20, rfl, hs1, hs, hb⟩; obtain ⟨B20', d20', rfl⟩ := R_slice hs1; obtain ⟨A20', c20', rfl⟩ := S_slice hs; have IT20_20 := Aside0.mk (ItmT.new' hs1 hs (lo := w19.heap.size) (by simp) (by have h_ := HB19.out.size; simpa using h_)); have HB20 := Aside0.mk (below_then (B := w.heap.size) HB19.out HB19.out.size hb); have HO20 := Aside0.mk (show w19.heap.size ≤ w20.heap.size by have h_ := hb.size; simpa using h_); have BW_20 := Aside0.mk (blk_below BW_19.out hb); have BG_20 := Aside0.mk (blk_below BG_19.out hb); have IT4_20 := Aside0.mk (ItmT.below IT4_19.out hb); have IT5_20 := Aside0.mk (ItmL.below IT5_19.out hb); have IT6_20 := Aside0.mk (ItmS.below IT6_19.out hb); have IT7_20 := Aside0.mk (ItmT.below IT7_19.out hb); have IT18_20 := Aside0.mk (ItmL.below IT18_19.out hb); have IT19_20 := Aside0.mk (ItmS.below IT19_19.out hb); clear hb hs hs1)
      clear IT18_20
      clear IT19_20
      have HB20a := Aside0.mk (show Below w.heap.size w (w20.alloc (.cells #[.int .i64 r1, .slice B20' rz.length d20', .slice A20' r2.length c20'] 27)) from HB20.out.alloc HB20.out.size _)
      have BW_20a := Aside0.mk (blk_alloc BW_20.out (.cells #[.int .i64 r1, .slice B20' rz.length d20', .slice A20' r2.length c20'] 27))
      have BG_20a := Aside0.mk (blk_alloc BG_20.out (.cells #[.int .i64 r1, .slice B20' rz.length d20', .slice A20' r2.length c20'] 27))
      have IT4_20a := Aside0.mk (ItmT.alloc IT4_20.out (.cells #[.int .i64 r1, .slice B20' rz.length d20', .slice A20' r2.length c20'] 27))
      have IT5_20a := Aside0.mk (ItmL.alloc IT5_20.out (.cells #[.int .i64 r1, .slice B20' rz.length d20', .slice A20' r2.length c20'] 27))
      have IT6_20a := Aside0.mk (ItmS.alloc IT6_20.out (.cells #[.int .i64 r1, .slice B20' rz.length d20', .slice A20' r2.length c20'] 27))
      have IT7_20a := Aside0.mk (ItmT.alloc IT7_20.out (.cells #[.int .i64 r1, .slice B20' rz.length d20', .slice A20' r2.length c20'] 27))
      have IT20_20a := Aside0.mk (ItmT.alloc IT20_20.out (.cells #[.int .i64 r1, .slice B20' rz.length d20', .slice A20' r2.length c20'] 27))
      have BH_20a := Aside0.mk (show (w20.alloc (.cells #[.int .i64 r1, .slice B20' rz.length d20', .slice A20' r2.length c20'] 27)).heap[w20.heap.size]? = some (.cells #[.int .i64 r1, .slice B20' rz.length d20', .slice A20' r2.length c20'] 27 (0, 0)) from by simpa using blk_new w20 (.cells #[.int .i64 r1, .slice B20' rz.length d20', .slice A20' r2.length c20'] 27))
      have xBW_0 : (w20.alloc (.cells #[.int .i64 r1, .slice B20' rz.length d20', .slice A20' r2.length c20'] 27)).cell? ⟨w4.heap.size, 0, none⟩ = some (.int .i64 r1) := (blk_cell BW_20a.out 0).trans rfl
      have xBW_1 : (w20.alloc (.cells #[.int .i64 r1, .slice B20' rz.length d20', .slice A20' r2.length c20'] 27)).cell? ⟨w4.heap.size, 1, none⟩ = some (.slice B4' rz.length d4') := (blk_cell BW_20a.out 1).trans rfl
      have xBW_2 : (w20.alloc (.cells #[.int .i64 r1, .slice B20' rz.length d20', .slice A20' r2.length c20'] 27)).cell? ⟨w4.heap.size, 2, none⟩ = some (.slice A4' r2.length c4') := (blk_cell BW_20a.out 2).trans rfl
      have xBH_0 : (w20.alloc (.cells #[.int .i64 r1, .slice B20' rz.length d20', .slice A20' r2.length c20'] 27)).cell? ⟨w20.heap.size, 0, none⟩ = some (.int .i64 r1) := (blk_cell BH_20a.out 0).trans rfl
      have xBH_1 : (w20.alloc (.cells #[.int .i64 r1, .slice B20' rz.length d20', .slice A20' r2.length c20'] 27)).cell? ⟨w20.heap.size, 1, none⟩ = some (.slice B20' rz.length d20') := (blk_cell BH_20a.out 1).trans rfl
      have xBH_2 : (w20.alloc (.cells #[.int .i64 r1, .slice B20' rz.length d20', .slice A20' r2.length c20'] 27)).cell? ⟨w20.heap.size, 2, none⟩ = some (.slice A20' r2.length c20') := (blk_cell BH_20a.out 2).trans rfl
      go_wp2_with (fail)
      have HEQ := eqT_calls r1 r1 _ _ rz _ _ r2 _ _ rz _ _ r2 _ (ItmT.C IT20_20a.out).1.2.2 (ItmT.C IT20_20a.out).1.2.1 (ItmT.C IT20_20a.out).2.2.2 (ItmT.C IT20_20a.out).2.2.1 (ItmT.C IT4_20a.out).1.2.2 (ItmT.C IT4_20a.out).1.2.1 (ItmT.C IT4_20a.out).2.2.2 (ItmT.C IT4_20a.out).2.2.1
      rw [decide_eq_true (show r1 = r1 ∧ rz = rz ∧ r2 = r2 from ⟨rfl, rfl, rfl⟩)] at HEQ
      (refine HEQ.mono ?_; clear xBW_0 xBW_1 xBW_2 xBH_0 xBH_1 xBH_2; rintro e w21 ⟨rfl, hb⟩; have HB21 := Aside0.mk (below_then (B := w.heap.size) HB20a.out HB20a.out.size hb); have HO21 := Aside0.mk (show w20.heap.size + 1 ≤ w21.heap.size by have h_ := hb.size; simpa using h_); have BW_21 := Aside0.mk (blk_below BW_20a.out hb); have BG_21 := Aside0.mk (blk_below BG_20a.out hb); have BH_21 := Aside0.mk (blk_below BH_20a.out hb); have IT4_21 := Aside0.mk (ItmT.below IT4_20a.out hb); have IT5_21 := Aside0.mk (ItmL.below IT5_20a.out hb); have IT6_21 := Aside0.mk (ItmS.below IT6_20a.out hb); have IT7_21 := Aside0.mk (ItmT.below IT7_20a.out hb); have IT20_21 := Aside0.mk (ItmT.below IT20_20a.out hb); clear hb HEQ)
      have xBG_0 : w21.cell? ⟨w7.heap.size, 0, none⟩ = some (.int .i64 r1) := (blk_cell BG_21.out 0).trans rfl
      have xBG_1 : w21.cell? ⟨w7.heap.size, 1, none⟩ = some (.slice B7' rz.length d7') := (blk_cell BG_21.out 1).trans rfl
      have xBG_2 : w21.cell? ⟨w7.heap.size, 2, none⟩ = some (.slice A7' r2.length c7') := (blk_cell BG_21.out 2).trans rfl
      go_wp2_with (fail)
      have HM := heldT_at r1 _ _ rz _ _ r2 1 (by decide) HRB.out _ _ _ ⟨_, _, _, IT7_21.out⟩
      rw [← HKE16.out] at HM
      (refine HM.mono ?_; clear xBG_0 xBG_1 xBG_2; rintro e w22 ⟨rfl, hb⟩; have HB22 := Aside0.mk (below_then (B := w.heap.size) HB21.out HB21.out.size hb); have HO22 := Aside0.mk (show w21.heap.size ≤ w22.heap.size by have h_ := hb.size; simpa using h_); have BW_22 := Aside0.mk (blk_below BW_21.out hb); have BG_22 := Aside0.mk (blk_below BG_21.out hb); have BH_22 := Aside0.mk (blk_below BH_21.out hb); have IT4_22 := Aside0.mk (ItmT.below IT4_21.out hb); have IT5_22 := Aside0.mk (ItmL.below IT5_21.out hb); have IT6_22 := Aside0.mk (ItmS.below IT6_21.out hb); have IT7_22 := Aside0.mk (ItmT.below IT7_21.out hb); have IT20_22 := Aside0.mk (ItmT.below IT20_21.out hb); clear hb HM)
      go_wp2_with (fail)
      go_ret
      exact ⟨rfl, HB22.out⟩

end Go.Proofs.Ytdahdeohmbadhaa.ExGatherTable
