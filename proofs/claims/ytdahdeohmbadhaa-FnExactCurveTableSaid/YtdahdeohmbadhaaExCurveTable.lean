/- The walk of FnExactCurveTable: with the contracts of all that it calls it answers true. -/
import Derived.Test.YtdahdeohmbadhaaExTC
namespace Go.Proofs.Ytdahdeohmbadhaa.ExCurveTable
open Go.RowKit Go.Lib Go.Proofs Go.Proofs.YtdahdeohmbadhaaW.PrintWords Go.Proofs.YtdahdeohmbadhaaW.PrintWords.Kd Go.Proofs.YtdahdeohmbadhaaW.PrintLast Go.Proofs.YtdahdeohmbadhaaW.PrintMore Go.Proofs.Ytdahdeohmbadhaa.G Go.Proofs.Ytdahdeohmbadhaa.Mark Go.Proofs.Ytdahdeohmbadhaa.MarkT Go.Proofs.Ytdahdeohmbadhaa.ExF Go.Proofs.Ytdahdeohmbadhaa.ExT Go.Proofs.Ytdahdeohmbadhaa.ExTC
set_option linter.unusedVariables false
set_option linter.unusedSimpArgs false

set_option maxHeartbeats 16000000 in
set_option maxRecDepth 100000 in
theorem walk (n0 : Int) (n1 : Int) (A2 : Option Addr) (c2 : Nat) (gs2 : List Int) (w : World) (hC2 : Kd.C (Kd.int .i64) w A2 gs2.length gs2) (hc2 : gs2.length ≤ c2) (r1 : Int) (rz : List Int) (r2 : List Row) (r3 : Int) (hr : (gs2.length ≤ 1048576) → 1 + (rz.length : Int) + (totT r2 : Int) < 9223372036854775807)
    (HSP : (gs2.length ≤ 1048576) → ∀ (W : World) (A2 : Option Addr) (c2 : Nat), Kd.C (Kd.int .i64) W A2 gs2.length gs2 → gs2.length ≤ c2 → Calls Try.prog 41 #[.int .i64 n0, .int .i64 n1, .slice A2 gs2.length c2] W (TabRes W r1 rz r2 r3))
    (HIM : (gs2.length ≤ 1048576) → ∀ (W : World) (A2 : Option Addr) (c2 : Nat), Kd.C (Kd.int .i64) W A2 gs2.length gs2 → gs2.length ≤ c2 → Calls Try.prog 42 #[.int .i64 n0, .int .i64 n1, .slice A2 gs2.length c2] W (TabRes W r1 rz r2 r3)) :
    Calls Try.prog 10 #[.int .i64 n0, .int .i64 n1, .slice A2 gs2.length c2] w fun e w' => e = .returned (.bool true) ∧ Below w.heap.size w w' := by
  have hu := Try.underlying27
  have HCA2 := Aside0.mk (fun W (hb : Below w.heap.size w W) => Kd.C_below hC2 hb)
  have HCP2 := Aside0.mk hc2
  have HRC := Aside0.mk hr
  have HSPC := Aside0.mk HSP
  have HIMC := Aside0.mk HIM
  clear hr HSP HIM hC2 hc2
  by_cases hlg2 : (1048576 : Int) < (gs2.length : Int)
  · have hld2 : decide ((1048576 : Int) < (gs2.length : Int)) = true := decide_eq_true hlg2
    have HB0 := Aside0.mk (show Below w.heap.size w w from Below.refl _ _)
    go_enter Try.func10, Try.ntmps10
    go_wp2_with (fail)
    go_ret
    exact ⟨rfl, HB0.out⟩
  · have hld2 : decide ((1048576 : Int) < (gs2.length : Int)) = false := decide_eq_false hlg2
    have HFL2 := Aside0.mk (show gs2.length ≤ 1048576 by omega)
    have HTT2 := Aside0.mk (show (gs2.length : Int) ≤ 1048576 by omega)
    clear hlg2
    have HRB := Aside0.mk (HRC.out HFL2.out)
    have HSPA := Aside0.mk (HSPC.out HFL2.out)
    have HIMA := Aside0.mk (HIMC.out HFL2.out)
    clear HRC HSPC HIMC
    have HB0 := Aside0.mk (show Below w.heap.size w w from Below.refl _ _)
    go_enter Try.func10, Try.ntmps10
    go_wp2_with (fail)
    (refine (toL_calls A2 c2 gs2 HFL2.out _ (HCA2.out _ HB0.out) HCP2.out).mono ?_; skip; rintro e w1 ⟨v1, rfl, hs, hb⟩; obtain ⟨A1', c1', rfl⟩ := R_slice hs; have IT1_1 := Aside0.mk (ItmL.new' hs (lo := w.heap.size) (by simp) (by have h_ := HB0.out.size; first | simpa using h_ | exact Nat.le_refl _)); have HB1 := Aside0.mk (below_then (B := w.heap.size) HB0.out HB0.out.size hb); have HO1 := Aside0.mk (show w.heap.size ≤ w1.heap.size by have h_ := hb.size; simpa using h_); clear hb hs)
    go_wp2_with (fail)
    (refine (HSPA.out _ _ _ (ItmL.C IT1_1.out).2.2 (ItmL.C IT1_1.out).2.1).mono ?_; rintro e w2 ⟨u2, v2, rfl, hs1, hs, hb⟩; obtain ⟨B2', d2', rfl⟩ := R_slice hs1; obtain ⟨A2', c2', rfl⟩ := S_slice hs; have IT2_2 := Aside0.mk (ItmT.new' hs1 hs (lo := w1.heap.size) (by simp) (by have h_ := HB1.out.size; first | simpa using h_ | exact Nat.le_refl _)); have HB2 := Aside0.mk (below_then (B := w.heap.size) HB1.out HB1.out.size hb); have HO2 := Aside0.mk (show w1.heap.size ≤ w2.heap.size by have h_ := hb.size; simpa using h_); have IT1_2 := Aside0.mk (ItmL.below IT1_1.out hb); clear hb hs hs1)
    clear IT1_2
    have HB2a := Aside0.mk (show Below w.heap.size w (w2.alloc (.cells #[.int .i64 r1, .slice B2' rz.length d2', .slice A2' r2.length c2'] 27)) from HB2.out.alloc HB2.out.size _)
    have IT2_2a := Aside0.mk (ItmT.alloc IT2_2.out (.cells #[.int .i64 r1, .slice B2' rz.length d2', .slice A2' r2.length c2'] 27))
    have BW_2a := Aside0.mk (show (w2.alloc (.cells #[.int .i64 r1, .slice B2' rz.length d2', .slice A2' r2.length c2'] 27)).heap[w2.heap.size]? = some (.cells #[.int .i64 r1, .slice B2' rz.length d2', .slice A2' r2.length c2'] 27 (0, 0)) from by simpa using blk_new w2 (.cells #[.int .i64 r1, .slice B2' rz.length d2', .slice A2' r2.length c2'] 27))
    go_wp2_with (fail)
    (refine (toL_calls A2 c2 gs2 HFL2.out _ (HCA2.out _ HB2a.out) HCP2.out).mono ?_; skip; rintro e w3 ⟨v3, rfl, hs, hb⟩; obtain ⟨A3', c3', rfl⟩ := R_slice hs; have IT3_3 := Aside0.mk (ItmL.new' hs (lo := w2.heap.size + 1) (by simp) (by have h_ := HB2a.out.size; first | simpa using h_ | exact Nat.le_refl _)); have HB3 := Aside0.mk (below_then (B := w.heap.size) HB2a.out HB2a.out.size hb); have HO3 := Aside0.mk (show w2.heap.size + 1 ≤ w3.heap.size by have h_ := hb.size; simpa using h_); have BW_3 := Aside0.mk (blk_below BW_2a.out hb); have IT2_3 := Aside0.mk (ItmT.below IT2_2a.out hb); clear hb hs)
    go_wp2_with (fail)
    (refine (HIMA.out _ _ _ (ItmL.C IT3_3.out).2.2 (ItmL.C IT3_3.out).2.1).mono ?_; rintro e w4 ⟨u4, v4, rfl, hs1, hs, hb⟩; obtain ⟨B4', d4', rfl⟩ := R_slice hs1; obtain ⟨A4', c4', rfl⟩ := S_slice hs; have IT4_4 := Aside0.mk (ItmT.new' hs1 hs (lo := w3.heap.size) (by simp) (by have h_ := HB3.out.size; first | simpa using h_ | exact Nat.le_refl _)); have HB4 := Aside0.mk (below_then (B := w.heap.size) HB3.out HB3.out.size hb); have HO4 := Aside0.mk (show w3.heap.size ≤ w4.heap.size by have h_ := hb.size; simpa using h_); have BW_4 := Aside0.mk (blk_below BW_3.out hb); have IT2_4 := Aside0.mk (ItmT.below IT2_3.out hb); have IT3_4 := Aside0.mk (ItmL.below IT3_3.out hb); clear hb hs hs1)
    have HB4a := Aside0.mk (show Below w.heap.size w (w4.alloc (.cells #[.int .i64 r1, .slice B4' rz.length d4', .slice A4' r2.length c4'] 27)) from HB4.out.alloc HB4.out.size _)
    have BW_4a := Aside0.mk (blk_alloc BW_4.out (.cells #[.int .i64 r1, .slice B4' rz.length d4', .slice A4' r2.length c4'] 27))
    have IT2_4a := Aside0.mk (ItmT.alloc IT2_4.out (.cells #[.int .i64 r1, .slice B4' rz.length d4', .slice A4' r2.length c4'] 27))
    have IT3_4a := Aside0.mk (ItmL.alloc IT3_4.out (.cells #[.int .i64 r1, .slice B4' rz.length d4', .slice A4' r2.length c4'] 27))
    have IT4_4a := Aside0.mk (ItmT.alloc IT4_4.out (.cells #[.int .i64 r1, .slice B4' rz.length d4', .slice A4' r2.length c4'] 27))
    have BG_4a := Aside0.mk (show (w4.alloc (.cells #[.int .i64 r1, .slice B4' rz.length d4', .slice A4' r2.length c4'] 27)).heap[w4.heap.size]? = some (.cells #[.int .i64 r1, .slice B4' rz.length d4', .slice A4' r2.length c4'] 27 (0, 0)) from by simpa using blk_new w4 (.cells #[.int .i64 r1, .slice B4' rz.length d4', .slice A4' r2.length c4'] 27))
    have xBW_0 : (w4.alloc (.cells #[.int .i64 r1, .slice B4' rz.length d4', .slice A4' r2.length c4'] 27)).cell? ⟨w2.heap.size, 0, none⟩ = some (.int .i64 r1) := (blk_cell BW_4a.out 0).trans rfl
    have xBW_1 : (w4.alloc (.cells #[.int .i64 r1, .slice B4' rz.length d4', .slice A4' r2.length c4'] 27)).cell? ⟨w2.heap.size, 1, none⟩ = some (.slice B2' rz.length d2') := (blk_cell BW_4a.out 1).trans rfl
    have xBW_2 : (w4.alloc (.cells #[.int .i64 r1, .slice B4' rz.length d4', .slice A4' r2.length c4'] 27)).cell? ⟨w2.heap.size, 2, none⟩ = some (.slice A2' r2.length c2') := (blk_cell BW_4a.out 2).trans rfl
    have xBG_0 : (w4.alloc (.cells #[.int .i64 r1, .slice B4' rz.length d4', .slice A4' r2.length c4'] 27)).cell? ⟨w4.heap.size, 0, none⟩ = some (.int .i64 r1) := (blk_cell BG_4a.out 0).trans rfl
    have xBG_1 : (w4.alloc (.cells #[.int .i64 r1, .slice B4' rz.length d4', .slice A4' r2.length c4'] 27)).cell? ⟨w4.heap.size, 1, none⟩ = some (.slice B4' rz.length d4') := (blk_cell BG_4a.out 1).trans rfl
    have xBG_2 : (w4.alloc (.cells #[.int .i64 r1, .slice B4' rz.length d4', .slice A4' r2.length c4'] 27)).cell? ⟨w4.heap.size, 2, none⟩ = some (.slice A4' r2.length c4') := (blk_cell BG_4a.out 2).trans rfl
    go_wp2_with (fail)
    have HEQ := eqT_calls r1 r1 _ _ rz _ _ r2 _ _ rz _ _ r2 _ (ItmT.C IT4_4a.out).1.2.2 (ItmT.C IT4_4a.out).1.2.1 (ItmT.C IT4_4a.out).2.2.2 (ItmT.C IT4_4a.out).2.2.1 (ItmT.C IT2_4a.out).1.2.2 (ItmT.C IT2_4a.out).1.2.1 (ItmT.C IT2_4a.out).2.2.2 (ItmT.C IT2_4a.out).2.2.1
    rw [decide_eq_true (show r1 = r1 ∧ rz = rz ∧ r2 = r2 from ⟨rfl, rfl, rfl⟩)] at HEQ
    (refine HEQ.mono ?_; clear xBW_0 xBW_1 xBW_2 xBG_0 xBG_1 xBG_2; rintro e w5 ⟨rfl, hb⟩; have HB5 := Aside0.mk (below_then (B := w.heap.size) HB4a.out HB4a.out.size hb); have HO5 := Aside0.mk (show w4.heap.size + 1 ≤ w5.heap.size by have h_ := hb.size; simpa using h_); have BW_5 := Aside0.mk (blk_below BW_4a.out hb); have BG_5 := Aside0.mk (blk_below BG_4a.out hb); have IT2_5 := Aside0.mk (ItmT.below IT2_4a.out hb); have IT3_5 := Aside0.mk (ItmL.below IT3_4a.out hb); have IT4_5 := Aside0.mk (ItmT.below IT4_4a.out hb); clear hb HEQ)
    go_wp2_with (fail)
    (refine (toL_calls A2 c2 gs2 HFL2.out _ (HCA2.out _ HB5.out) HCP2.out).mono ?_; skip; rintro e w6 ⟨v6, rfl, hs, hb⟩; obtain ⟨A6', c6', rfl⟩ := R_slice hs; have IT6_6 := Aside0.mk (ItmL.new' hs (lo := w5.heap.size) (by simp) (by have h_ := HB5.out.size; first | simpa using h_ | exact Nat.le_refl _)); have HB6 := Aside0.mk (below_then (B := w.heap.size) HB5.out HB5.out.size hb); have HO6 := Aside0.mk (show w5.heap.size ≤ w6.heap.size by have h_ := hb.size; simpa using h_); have BW_6 := Aside0.mk (blk_below BW_5.out hb); have BG_6 := Aside0.mk (blk_below BG_5.out hb); have IT2_6 := Aside0.mk (ItmT.below IT2_5.out hb); have IT3_6 := Aside0.mk (ItmL.below IT3_5.out hb); have IT4_6 := Aside0.mk (ItmT.below IT4_5.out hb); clear hb hs)
    go_wp2_with (fail)
    have HEQ := eqL_calls _ _ _ _ gs2 gs2 _ (ItmL.C IT3_6.out).2.2 (ItmL.C IT3_6.out).2.1 (ItmL.C IT6_6.out).2.2 (ItmL.C IT6_6.out).2.1
    rw [decide_eq_true (show gs2 = gs2 from rfl)] at HEQ
    (refine HEQ.mono ?_; rintro e w7 ⟨rfl, hb⟩; have HB7 := Aside0.mk (below_then (B := w.heap.size) HB6.out HB6.out.size hb); have HO7 := Aside0.mk (show w6.heap.size ≤ w7.heap.size by have h_ := hb.size; simpa using h_); have BW_7 := Aside0.mk (blk_below BW_6.out hb); have BG_7 := Aside0.mk (blk_below BG_6.out hb); have IT2_7 := Aside0.mk (ItmT.below IT2_6.out hb); have IT3_7 := Aside0.mk (ItmL.below IT3_6.out hb); have IT4_7 := Aside0.mk (ItmT.below IT4_6.out hb); have IT6_7 := Aside0.mk (ItmL.below IT6_6.out hb); clear hb HEQ)
    clear IT6_7
    go_wp2_with (fail)
    obtain ⟨k8, hk8⟩ : ∃ k_ : Int, k_ = 1 + (gs2.length : Int) := ⟨_, rfl⟩
    have HM := markS_calls (fun k => w2.heap.size + 1 ≤ k ∧ k < w3.heap.size) _ gs2 1 (by have ht2_ := HTT2.out; omega) (by have ht2_ := HTT2.out; omega) w _ HB7.out IT3_7.out.s
    rw [← hk8] at HM
    have HKE8 := Aside0.mk hk8
    clear hk8
    (refine HM.mono ?_; skip; rintro e w8 ⟨rfl, hs, hb, hk⟩; have HB8 := Aside0.mk hb; have HO8 := Aside0.mk (show w7.heap.size ≤ w8.heap.size by have h_ := hk.1; simpa using h_); have BW_8 := Aside0.mk (blk_kept BW_7.out hk (fun h_ => by have o_HO1 := HO1.out; have o_HO2 := HO2.out; have o_HO3 := HO3.out; have o_HO4 := HO4.out; have o_HO5 := HO5.out; have o_HO6 := HO6.out; have o_HO7 := HO7.out; obtain ⟨h1_, h2_⟩ := h_; omega)); have BG_8 := Aside0.mk (blk_kept BG_7.out hk (fun h_ => by have o_HO1 := HO1.out; have o_HO2 := HO2.out; have o_HO3 := HO3.out; have o_HO4 := HO4.out; have o_HO5 := HO5.out; have o_HO6 := HO6.out; have o_HO7 := HO7.out; obtain ⟨h1_, h2_⟩ := h_; omega)); have IT2_8 := Aside0.mk (ItmT.kept IT2_7.out hk (fun k h_ h2_ => by have o_HO1 := HO1.out; have o_HO2 := HO2.out; have o_HO3 := HO3.out; have o_HO4 := HO4.out; have o_HO5 := HO5.out; have o_HO6 := HO6.out; have o_HO7 := HO7.out; obtain ⟨h3_, h4_⟩ := h_; obtain ⟨h5_, h6_⟩ := h2_; omega)); have IT4_8 := Aside0.mk (ItmT.kept IT4_7.out hk (fun k h_ h2_ => by have o_HO1 := HO1.out; have o_HO2 := HO2.out; have o_HO3 := HO3.out; have o_HO4 := HO4.out; have o_HO5 := HO5.out; have o_HO6 := HO6.out; have o_HO7 := HO7.out; obtain ⟨h3_, h4_⟩ := h_; obtain ⟨h5_, h6_⟩ := h2_; omega)); have IT3_8 := Aside0.mk (show ItmL w8 w.heap.size _ (upL gs2.length 1) (w2.heap.size + 1) (w3.heap.size) from ⟨hs, Nat.le_trans IT3_7.out.fit hk.1⟩); clear hb hs hk HM)
    have kn : decide (k8 < 0) = false := decide_eq_false (by have hHKE8_ := HKE8.out; have ht2_ := HTT2.out; omega)
    have xBW_0 : w8.cell? ⟨w2.heap.size, 0, none⟩ = some (.int .i64 r1) := (blk_cell BW_8.out 0).trans rfl
    have xBW_1 : w8.cell? ⟨w2.heap.size, 1, none⟩ = some (.slice B2' rz.length d2') := (blk_cell BW_8.out 1).trans rfl
    have xBW_2 : w8.cell? ⟨w2.heap.size, 2, none⟩ = some (.slice A2' r2.length c2') := (blk_cell BW_8.out 2).trans rfl
    have xBG_0 : w8.cell? ⟨w4.heap.size, 0, none⟩ = some (.int .i64 r1) := (blk_cell BG_8.out 0).trans rfl
    have xBG_1 : w8.cell? ⟨w4.heap.size, 1, none⟩ = some (.slice B4' rz.length d4') := (blk_cell BG_8.out 1).trans rfl
    have xBG_2 : w8.cell? ⟨w4.heap.size, 2, none⟩ = some (.slice A4' r2.length c4') := (blk_cell BG_8.out 2).trans rfl
    go_wp2_with (fail)
    have HEQ := eqT_calls r1 r1 _ _ rz _ _ r2 _ _ rz _ _ r2 _ (ItmT.C IT4_8.out).1.2.2 (ItmT.C IT4_8.out).1.2.1 (ItmT.C IT4_8.out).2.2.2 (ItmT.C IT4_8.out).2.2.1 (ItmT.C IT2_8.out).1.2.2 (ItmT.C IT2_8.out).1.2.1 (ItmT.C IT2_8.out).2.2.2 (ItmT.C IT2_8.out).2.2.1
    rw [decide_eq_true (show r1 = r1 ∧ rz = rz ∧ r2 = r2 from ⟨rfl, rfl, rfl⟩)] at HEQ
    (refine HEQ.mono ?_; clear xBW_0 xBW_1 xBW_2 xBG_0 xBG_1 xBG_2; rintro e w9 ⟨rfl, hb⟩; have HB9 := Aside0.mk (below_then (B := w.heap.size) HB8.out HB8.out.size hb); have HO9 := Aside0.mk (show w8.heap.size ≤ w9.heap.size by have h_ := hb.size; simpa using h_); have BW_9 := Aside0.mk (blk_below BW_8.out hb); have BG_9 := Aside0.mk (blk_below BG_8.out hb); have IT2_9 := Aside0.mk (ItmT.below IT2_8.out hb); have IT3_9 := Aside0.mk (ItmL.below IT3_8.out hb); have IT4_9 := Aside0.mk (ItmT.below IT4_8.out hb); clear hb HEQ)
    clear kn
    have xBG_0 : w9.cell? ⟨w4.heap.size, 0, none⟩ = some (.int .i64 r1) := (blk_cell BG_9.out 0).trans rfl
    have xBG_1 : w9.cell? ⟨w4.heap.size, 1, none⟩ = some (.slice B4' rz.length d4') := (blk_cell BG_9.out 1).trans rfl
    have xBG_2 : w9.cell? ⟨w4.heap.size, 2, none⟩ = some (.slice A4' r2.length c4') := (blk_cell BG_9.out 2).trans rfl
    go_wp2_with (fail)
    obtain ⟨k10, hk10⟩ : ∃ k_ : Int, k_ = 1 + (rz.length : Int) + (totT r2 : Int) := ⟨_, rfl⟩
    have HM := markTable_calls (w3.heap.size) (w4.heap.size) r1 _ rz _ r2 1 (by decide) HRB.out w _ HB9.out IT4_9.out
    rw [← hk10] at HM
    have HKE10 := Aside0.mk hk10
    clear hk10
    (refine HM.mono ?_; clear xBG_0 xBG_1 xBG_2; rintro e w10 ⟨rfl, hs, hb, hk⟩; have HB10 := Aside0.mk hb; have HO10 := Aside0.mk (show w9.heap.size ≤ w10.heap.size by have h_ := hk.1; simpa using h_); have BW_10 := Aside0.mk (blk_kept BW_9.out hk (fun h_ => by have o_HO1 := HO1.out; have o_HO2 := HO2.out; have o_HO3 := HO3.out; have o_HO4 := HO4.out; have o_HO5 := HO5.out; have o_HO6 := HO6.out; have o_HO7 := HO7.out; have o_HO8 := HO8.out; have o_HO9 := HO9.out; obtain ⟨h1_, h2_⟩ := h_; omega)); have BG_10 := Aside0.mk (blk_kept BG_9.out hk (fun h_ => by have o_HO1 := HO1.out; have o_HO2 := HO2.out; have o_HO3 := HO3.out; have o_HO4 := HO4.out; have o_HO5 := HO5.out; have o_HO6 := HO6.out; have o_HO7 := HO7.out; have o_HO8 := HO8.out; have o_HO9 := HO9.out; obtain ⟨h1_, h2_⟩ := h_; omega)); have IT2_10 := Aside0.mk (ItmT.kept IT2_9.out hk (fun k h_ h2_ => by have o_HO1 := HO1.out; have o_HO2 := HO2.out; have o_HO3 := HO3.out; have o_HO4 := HO4.out; have o_HO5 := HO5.out; have o_HO6 := HO6.out; have o_HO7 := HO7.out; have o_HO8 := HO8.out; have o_HO9 := HO9.out; obtain ⟨h3_, h4_⟩ := h_; obtain ⟨h5_, h6_⟩ := h2_; omega)); have IT3_10 := Aside0.mk (ItmL.kept IT3_9.out hk (fun k h_ h2_ => by have o_HO1 := HO1.out; have o_HO2 := HO2.out; have o_HO3 := HO3.out; have o_HO4 := HO4.out; have o_HO5 := HO5.out; have o_HO6 := HO6.out; have o_HO7 := HO7.out; have o_HO8 := HO8.out; have o_HO9 := HO9.out; obtain ⟨h3_, h4_⟩ := h_; obtain ⟨h5_, h6_⟩ := h2_; omega)); have IT4_10 := Aside0.mk hs; clear hb hs hk HM)
    have kn : decide (k10 < 0) = false := decide_eq_false (by have h_ := HKE10.out; omega)
    have xBG_0 : w10.cell? ⟨w4.heap.size, 0, none⟩ = some (.int .i64 r1) := (blk_cell BG_10.out 0).trans rfl
    have xBG_1 : w10.cell? ⟨w4.heap.size, 1, none⟩ = some (.slice B4' rz.length d4') := (blk_cell BG_10.out 1).trans rfl
    have xBG_2 : w10.cell? ⟨w4.heap.size, 2, none⟩ = some (.slice A4' r2.length c4') := (blk_cell BG_10.out 2).trans rfl
    go_wp2_with (fail)
    have HM := heldT_at r1 _ _ rz _ _ r2 1 (by decide) HRB.out _ _ _ ⟨_, _, _, IT4_10.out⟩
    rw [← HKE10.out] at HM
    (refine HM.mono ?_; clear xBG_0 xBG_1 xBG_2; rintro e w11 ⟨rfl, hb⟩; have HB11 := Aside0.mk (below_then (B := w.heap.size) HB10.out HB10.out.size hb); have HO11 := Aside0.mk (show w10.heap.size ≤ w11.heap.size by have h_ := hb.size; simpa using h_); have BW_11 := Aside0.mk (blk_below BW_10.out hb); have BG_11 := Aside0.mk (blk_below BG_10.out hb); have IT2_11 := Aside0.mk (ItmT.below IT2_10.out hb); have IT3_11 := Aside0.mk (ItmL.below IT3_10.out hb); have IT4_11 := Aside0.mk (ItmT.below IT4_10.out hb); clear hb HM)
    go_wp2_with (fail)
    (refine (toL_calls A2 c2 gs2 HFL2.out _ (HCA2.out _ HB11.out) HCP2.out).mono ?_; skip; rintro e w12 ⟨v12, rfl, hs, hb⟩; obtain ⟨A12', c12', rfl⟩ := R_slice hs; have IT12_12 := Aside0.mk (ItmL.new' hs (lo := w11.heap.size) (by simp) (by have h_ := HB11.out.size; first | simpa using h_ | exact Nat.le_refl _)); have HB12 := Aside0.mk (below_then (B := w.heap.size) HB11.out HB11.out.size hb); have HO12 := Aside0.mk (show w11.heap.size ≤ w12.heap.size by have h_ := hb.size; simpa using h_); have BW_12 := Aside0.mk (blk_below BW_11.out hb); have BG_12 := Aside0.mk (blk_below BG_11.out hb); have IT2_12 := Aside0.mk (ItmT.below IT2_11.out hb); have IT3_12 := Aside0.mk (ItmL.below IT3_11.out hb); have IT4_12 := Aside0.mk (ItmT.below IT4_11.out hb); clear hb hs)
    go_wp2_with (fail)
    (refine (HIMA.out _ _ _ (ItmL.C IT12_12.out).2.2 (ItmL.C IT12_12.out).2.1).mono ?_; rintro e w13 ⟨u13, v13, rfl, hs1, hs, hb⟩; obtain ⟨B13', d13', rfl⟩ := R_slice hs1; obtain ⟨A13', c13', rfl⟩ := S_slice hs; have IT13_13 := Aside0.mk (ItmT.new' hs1 hs (lo := w12.heap.size) (by simp) (by have h_ := HB12.out.size; first | simpa using h_ | exact Nat.le_refl _)); have HB13 := Aside0.mk (below_then (B := w.heap.size) HB12.out HB12.out.size hb); have HO13 := Aside0.mk (show w12.heap.size ≤ w13.heap.size by have h_ := hb.size; simpa using h_); have BW_13 := Aside0.mk (blk_below BW_12.out hb); have BG_13 := Aside0.mk (blk_below BG_12.out hb); have IT2_13 := Aside0.mk (ItmT.below IT2_12.out hb); have IT3_13 := Aside0.mk (ItmL.below IT3_12.out hb); have IT4_13 := Aside0.mk (ItmT.below IT4_12.out hb); have IT12_13 := Aside0.mk (ItmL.below IT12_12.out hb); clear hb hs hs1)
    clear IT12_13
    have HB13a := Aside0.mk (show Below w.heap.size w (w13.alloc (.cells #[.int .i64 r1, .slice B13' rz.length d13', .slice A13' r2.length c13'] 27)) from HB13.out.alloc HB13.out.size _)
    have BW_13a := Aside0.mk (blk_alloc BW_13.out (.cells #[.int .i64 r1, .slice B13' rz.length d13', .slice A13' r2.length c13'] 27))
    have BG_13a := Aside0.mk (blk_alloc BG_13.out (.cells #[.int .i64 r1, .slice B13' rz.length d13', .slice A13' r2.length c13'] 27))
    have IT2_13a := Aside0.mk (ItmT.alloc IT2_13.out (.cells #[.int .i64 r1, .slice B13' rz.length d13', .slice A13' r2.length c13'] 27))
    have IT3_13a := Aside0.mk (ItmL.alloc IT3_13.out (.cells #[.int .i64 r1, .slice B13' rz.length d13', .slice A13' r2.length c13'] 27))
    have IT4_13a := Aside0.mk (ItmT.alloc IT4_13.out (.cells #[.int .i64 r1, .slice B13' rz.length d13', .slice A13' r2.length c13'] 27))
    have IT13_13a := Aside0.mk (ItmT.alloc IT13_13.out (.cells #[.int .i64 r1, .slice B13' rz.length d13', .slice A13' r2.length c13'] 27))
    have BH_13a := Aside0.mk (show (w13.alloc (.cells #[.int .i64 r1, .slice B13' rz.length d13', .slice A13' r2.length c13'] 27)).heap[w13.heap.size]? = some (.cells #[.int .i64 r1, .slice B13' rz.length d13', .slice A13' r2.length c13'] 27 (0, 0)) from by simpa using blk_new w13 (.cells #[.int .i64 r1, .slice B13' rz.length d13', .slice A13' r2.length c13'] 27))
    have xBW_0 : (w13.alloc (.cells #[.int .i64 r1, .slice B13' rz.length d13', .slice A13' r2.length c13'] 27)).cell? ⟨w2.heap.size, 0, none⟩ = some (.int .i64 r1) := (blk_cell BW_13a.out 0).trans rfl
    have xBW_1 : (w13.alloc (.cells #[.int .i64 r1, .slice B13' rz.length d13', .slice A13' r2.length c13'] 27)).cell? ⟨w2.heap.size, 1, none⟩ = some (.slice B2' rz.length d2') := (blk_cell BW_13a.out 1).trans rfl
    have xBW_2 : (w13.alloc (.cells #[.int .i64 r1, .slice B13' rz.length d13', .slice A13' r2.length c13'] 27)).cell? ⟨w2.heap.size, 2, none⟩ = some (.slice A2' r2.length c2') := (blk_cell BW_13a.out 2).trans rfl
    have xBH_0 : (w13.alloc (.cells #[.int .i64 r1, .slice B13' rz.length d13', .slice A13' r2.length c13'] 27)).cell? ⟨w13.heap.size, 0, none⟩ = some (.int .i64 r1) := (blk_cell BH_13a.out 0).trans rfl
    have xBH_1 : (w13.alloc (.cells #[.int .i64 r1, .slice B13' rz.length d13', .slice A13' r2.length c13'] 27)).cell? ⟨w13.heap.size, 1, none⟩ = some (.slice B13' rz.length d13') := (blk_cell BH_13a.out 1).trans rfl
    have xBH_2 : (w13.alloc (.cells #[.int .i64 r1, .slice B13' rz.length d13', .slice A13' r2.length c13'] 27)).cell? ⟨w13.heap.size, 2, none⟩ = some (.slice A13' r2.length c13') := (blk_cell BH_13a.out 2).trans rfl
    go_wp2_with (fail)
    have HEQ := eqT_calls r1 r1 _ _ rz _ _ r2 _ _ rz _ _ r2 _ (ItmT.C IT13_13a.out).1.2.2 (ItmT.C IT13_13a.out).1.2.1 (ItmT.C IT13_13a.out).2.2.2 (ItmT.C IT13_13a.out).2.2.1 (ItmT.C IT2_13a.out).1.2.2 (ItmT.C IT2_13a.out).1.2.1 (ItmT.C IT2_13a.out).2.2.2 (ItmT.C IT2_13a.out).2.2.1
    rw [decide_eq_true (show r1 = r1 ∧ rz = rz ∧ r2 = r2 from ⟨rfl, rfl, rfl⟩)] at HEQ
    (refine HEQ.mono ?_; clear xBW_0 xBW_1 xBW_2 xBH_0 xBH_1 xBH_2; rintro e w14 ⟨rfl, hb⟩; have HB14 := Aside0.mk (below_then (B := w.heap.size) HB13a.out HB13a.out.size hb); have HO14 := Aside0.mk (show w13.heap.size + 1 ≤ w14.heap.size by have h_ := hb.size; simpa using h_); have BW_14 := Aside0.mk (blk_below BW_13a.out hb); have BG_14 := Aside0.mk (blk_below BG_13a.out hb); have BH_14 := Aside0.mk (blk_below BH_13a.out hb); have IT2_14 := Aside0.mk (ItmT.below IT2_13a.out hb); have IT3_14 := Aside0.mk (ItmL.below IT3_13a.out hb); have IT4_14 := Aside0.mk (ItmT.below IT4_13a.out hb); have IT13_14 := Aside0.mk (ItmT.below IT13_13a.out hb); clear hb HEQ)
    have xBG_0 : w14.cell? ⟨w4.heap.size, 0, none⟩ = some (.int .i64 r1) := (blk_cell BG_14.out 0).trans rfl
    have xBG_1 : w14.cell? ⟨w4.heap.size, 1, none⟩ = some (.slice B4' rz.length d4') := (blk_cell BG_14.out 1).trans rfl
    have xBG_2 : w14.cell? ⟨w4.heap.size, 2, none⟩ = some (.slice A4' r2.length c4') := (blk_cell BG_14.out 2).trans rfl
    go_wp2_with (fail)
    have HM := heldT_at r1 _ _ rz _ _ r2 1 (by decide) HRB.out _ _ _ ⟨_, _, _, IT4_14.out⟩
    rw [← HKE10.out] at HM
    (refine HM.mono ?_; clear xBG_0 xBG_1 xBG_2; rintro e w15 ⟨rfl, hb⟩; have HB15 := Aside0.mk (below_then (B := w.heap.size) HB14.out HB14.out.size hb); have HO15 := Aside0.mk (show w14.heap.size ≤ w15.heap.size by have h_ := hb.size; simpa using h_); have BW_15 := Aside0.mk (blk_below BW_14.out hb); have BG_15 := Aside0.mk (blk_below BG_14.out hb); have BH_15 := Aside0.mk (blk_below BH_14.out hb); have IT2_15 := Aside0.mk (ItmT.below IT2_14.out hb); have IT3_15 := Aside0.mk (ItmL.below IT3_14.out hb); have IT4_15 := Aside0.mk (ItmT.below IT4_14.out hb); have IT13_15 := Aside0.mk (ItmT.below IT13_14.out hb); clear hb HM)
    go_wp2_with (fail)
    go_ret
    exact ⟨rfl, HB15.out⟩

end Go.Proofs.Ytdahdeohmbadhaa.ExCurveTable
