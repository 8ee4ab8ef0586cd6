/- The walk of FnExactFamilyTable: with the contracts of all that it calls it answers true. -/
import Derived.Test.YtdahdeohmbadhaaExTC
import Derived.Test.YtdahdeohmbadhaaExW
namespace Go.Proofs.Ytdahdeohmbadhaa.ExFamilyTable
open Go.RowKit Go.Lib Go.Proofs Go.Proofs.YtdahdeohmbadhaaW.PrintWords Go.Proofs.YtdahdeohmbadhaaW.PrintWords.Kd Go.Proofs.YtdahdeohmbadhaaW.PrintLast Go.Proofs.YtdahdeohmbadhaaW.PrintMore Go.Proofs.Ytdahdeohmbadhaa.G Go.Proofs.Ytdahdeohmbadhaa.Mark Go.Proofs.Ytdahdeohmbadhaa.MarkT Go.Proofs.Ytdahdeohmbadhaa.ExF Go.Proofs.Ytdahdeohmbadhaa.ExT Go.Proofs.Ytdahdeohmbadhaa.ExTC Go.Proofs.Ytdahdeohmbadhaa.ExW
set_option linter.unusedVariables false
set_option linter.unusedSimpArgs false

set_option maxHeartbeats 16000000 in
set_option maxRecDepth 100000 in
theorem walk (n0 : Int) (A0 : Option Addr) (c0 : Nat) (gs0 : List (List Int)) (n1 : Int) (w : World) (hC0 : Kd.C dR w A0 gs0.length gs0) (hc0 : gs0.length ≤ c0) (r1 : Int) (rz : List Int) (r2 : List Row) (r3 : Int) (hr : (Few gs0) → 1 + (rz.length : Int) + (totT r2 : Int) < 9223372036854775807)
  (HSP : (Few gs0) → ∀ (W : World) (A0 : Option Addr) (c0 : Nat), Kd.C dR W A0 gs0.length gs0 → gs0.length ≤ c0 → Calls Try.prog 44 #[.agg #[.int .i64 n0, .slice A0 gs0.length c0], .int .i64 n1] W (TabRes W r1 rz r2 r3))
  (HIM : (Few gs0) → ∀ (W : World) (A0 : Option Addr) (c0 : Nat), Kd.C dR W A0 gs0.length gs0 → gs0.length ≤ c0 → Calls Try.prog 46 #[.agg #[.int .i64 n0, .slice A0 gs0.length c0], .int .i64 n1] W (TabRes W r1 rz r2 r3)) :
  Calls Try.prog 11 #[.agg #[.int .i64 n0, .slice A0 gs0.length c0], .int .i64 n1] w fun e w' => e = .returned (.bool true) ∧ Below w.heap.size w w' := by
 have hu := Try.underlying27
 have hu2F := Try.underlying55
 have hu3 := Try.underlying58
 have HCA0 := Aside0.mk (fun W (hb : Below w.heap.size w W) => Kd.C_below hC0 hb)
 have HCP0 := Aside0.mk hc0
 have HRC := Aside0.mk hr
 have HSPC := Aside0.mk HSP
 have HIMC := Aside0.mk HIM
 clear hr HSP HIM hC0 hc0
 have HSZ0 := fun W h3 h4 => szF_calls n0 A0 c0 gs0 (1048576 : Int) (by omega) (by omega) W h3 h4
 by_cases hsz0 : (1048576 : Int) < ((size2 gs0 : Nat) : Int)
 ·
  rw [if_pos hsz0] at HSZ0
  have zneg0 : decide ((-1 : Int) < 0) = true := by decide
  clear hsz0
  have HB0 := Aside0.mk (show Below w.heap.size w (w.alloc (.cells #[.int .i64 n0, .slice A0 gs0.length c0] 55)) from below_alloc (Below.refl _ _) _)
  have BA0_0 := Aside0.mk (show (w.alloc (.cells #[.int .i64 n0, .slice A0 gs0.length c0] 55)).heap[w.heap.size]? = some (.cells #[.int .i64 n0, .slice A0 gs0.length c0] 55 (0, 0)) from by simpa using blk_new w (.cells #[.int .i64 n0, .slice A0 gs0.length c0] 55))
  go_enter Try.func11, Try.ntmps11
  have xBA0_0 : (w.alloc (.cells #[.int .i64 n0, .slice A0 gs0.length c0] 55)).cell? ⟨w.heap.size, 0, none⟩ = some (.int .i64 n0) := (blk_cell BA0_0.out 0).trans rfl
  have xBA0_1 : (w.alloc (.cells #[.int .i64 n0, .slice A0 gs0.length c0] 55)).cell? ⟨w.heap.size, 1, none⟩ = some (.slice A0 gs0.length c0) := (blk_cell BA0_0.out 1).trans rfl
  go_wp2_with (fail)
  (refine (HSZ0 _ (HCA0.out _ HB0.out) HCP0.out).mono ?_; clear xBA0_0 xBA0_1; rintro e w1 ⟨rfl, hb⟩; have HB1 := Aside0.mk (below_then (B := w.heap.size) HB0.out HB0.out.size hb); have HO1 := Aside0.mk (show w.heap.size + 1 ≤ w1.heap.size by have h_ := hb.size; simpa using h_); have BA0_1 := Aside0.mk (blk_below BA0_0.out hb); clear hb)
  go_wp2_with (fail)
  go_ret
  exact ⟨rfl, HB1.out⟩
 ·
  rw [if_neg hsz0] at HSZ0
  have HFW0 := Aside0.mk (few_of (a := (1048576 : Int)) (by omega) hsz0)
  obtain ⟨z0, hz0⟩ : ∃ z : Int, z = (1048576 : Int) - ((size2 gs0 : Nat) : Int) := ⟨_, rfl⟩
  rw [← hz0] at HSZ0
  have ZL0 := Aside0.mk (show 0 ≤ z0 ∧ z0 ≤ 1048576 from by constructor <;> omega)
  have zn0 : decide (z0 < 0) = false := decide_eq_false (by have h_ := ZL0.out; omega)
  have HTT0 := Aside0.mk (show (total gs0 : Int) ≤ 1048576 from by unfold size2 at hsz0; omega)
  clear hz0 hsz0
  have HRB := Aside0.mk (HRC.out HFW0.out)
  have HSPA := Aside0.mk (HSPC.out HFW0.out)
  have HIMA := Aside0.mk (HIMC.out HFW0.out)
  clear HRC HSPC HIMC
  have HB0 := Aside0.mk (show Below w.heap.size w (w.alloc (.cells #[.int .i64 n0, .slice A0 gs0.length c0] 55)) from below_alloc (Below.refl _ _) _)
  have BA0_0 := Aside0.mk (show (w.alloc (.cells #[.int .i64 n0, .slice A0 gs0.length c0] 55)).heap[w.heap.size]? = some (.cells #[.int .i64 n0, .slice A0 gs0.length c0] 55 (0, 0)) from by simpa using blk_new w (.cells #[.int .i64 n0, .slice A0 gs0.length c0] 55))
  go_enter Try.func11, Try.ntmps11
  have xBA0_0 : (w.alloc (.cells #[.int .i64 n0, .slice A0 gs0.length c0] 55)).cell? ⟨w.heap.size, 0, none⟩ = some (.int .i64 n0) := (blk_cell BA0_0.out 0).trans rfl
  have xBA0_1 : (w.alloc (.cells #[.int .i64 n0, .slice A0 gs0.length c0] 55)).cell? ⟨w.heap.size, 1, none⟩ = some (.slice A0 gs0.length c0) := (blk_cell BA0_0.out 1).trans rfl
  go_wp2_with (fail)
  (refine (HSZ0 _ (HCA0.out _ HB0.out) HCP0.out).mono ?_; clear xBA0_0 xBA0_1; rintro e w1 ⟨rfl, hb⟩; have HB1 := Aside0.mk (below_then (B := w.heap.size) HB0.out HB0.out.size hb); have HO1 := Aside0.mk (show w.heap.size + 1 ≤ w1.heap.size by have h_ := hb.size; simpa using h_); have BA0_1 := Aside0.mk (blk_below BA0_0.out hb); clear hb)
  have xBA0_0 : w1.cell? ⟨w.heap.size, 0, none⟩ = some (.int .i64 n0) := (blk_cell BA0_1.out 0).trans rfl
  have xBA0_1 : w1.cell? ⟨w.heap.size, 1, none⟩ = some (.slice A0 gs0.length c0) := (blk_cell BA0_1.out 1).trans rfl
  go_wp2_with (fail)
  (refine (toF_calls n0 A0 c0 gs0 HFW0.out _ (HCA0.out _ HB1.out) HCP0.out).mono ?_; clear xBA0_0 xBA0_1; rintro e w2 ⟨v2, rfl, hs, hb⟩; obtain ⟨A2', c2', rfl⟩ := S_slice hs; have IT2_2 := Aside0.mk (Itm.new' hs (lo := w1.heap.size) (by simp) (by have h_ := HB1.out.size; first | simpa using h_ | exact Nat.le_refl _)); have HB2 := Aside0.mk (below_then (B := w.heap.size) HB1.out HB1.out.size hb); have HO2 := Aside0.mk (show w1.heap.size ≤ w2.heap.size by have h_ := hb.size; simpa using h_); have BA0_2 := Aside0.mk (blk_below BA0_1.out hb); clear hb hs)
  go_wp2_with (fail)
  (refine (HSPA.out _ _ _ (Itm.C IT2_2.out).2.2 (Itm.C IT2_2.out).2.1).mono ?_; rintro e w3 ⟨u3, v3, rfl, hs1, hs, hb⟩; obtain ⟨B3', d3', rfl⟩ := R_slice hs1; obtain ⟨A3', c3', rfl⟩ := S_slice hs; have IT3_3 := Aside0.mk (ItmT.new' hs1 hs (lo := w2.heap.size) (by simp) (by have h_ := HB2.out.size; first | simpa using h_ | exact Nat.le_refl _)); have HB3 := Aside0.mk (below_then (B := w.heap.size) HB2.out HB2.out.size hb); have HO3 := Aside0.mk (show w2.heap.size ≤ w3.heap.size by have h_ := hb.size; simpa using h_); have BA0_3 := Aside0.mk (blk_below BA0_2.out hb); have IT2_3 := Aside0.mk (Itm.below IT2_2.out hb); clear hb hs hs1)
  clear IT2_3
  have HB3a := Aside0.mk (show Below w.heap.size w (w3.alloc (.cells #[.int .i64 r1, .slice B3' rz.length d3', .slice A3' r2.length c3'] 27)) from HB3.out.alloc HB3.out.size _)
  have BA0_3a := Aside0.mk (blk_alloc BA0_3.out (.cells #[.int .i64 r1, .slice B3' rz.length d3', .slice A3' r2.length c3'] 27))
  have IT3_3a := Aside0.mk (ItmT.alloc IT3_3.out (.cells #[.int .i64 r1, .slice B3' rz.length d3', .slice A3' r2.length c3'] 27))
  have BW_3a := Aside0.mk (show (w3.alloc (.cells #[.int .i64 r1, .slice B3' rz.length d3', .slice A3' r2.length c3'] 27)).heap[w3.heap.size]? = some (.cells #[.int .i64 r1, .slice B3' rz.length d3', .slice A3' r2.length c3'] 27 (0, 0)) from by simpa using blk_new w3 (.cells #[.int .i64 r1, .slice B3' rz.length d3', .slice A3' r2.length c3'] 27))
  have xBA0_0 : (w3.alloc (.cells #[.int .i64 r1, .slice B3' rz.length d3', .slice A3' r2.length c3'] 27)).cell? ⟨w.heap.size, 0, none⟩ = some (.int .i64 n0) := (blk_cell BA0_3a.out 0).trans rfl
  have xBA0_1 : (w3.alloc (.cells #[.int .i64 r1, .slice B3' rz.length d3', .slice A3' r2.length c3'] 27)).cell? ⟨w.heap.size, 1, none⟩ = some (.slice A0 gs0.length c0) := (blk_cell BA0_3a.out 1).trans rfl
  go_wp2_with (fail)
  (refine (toF_calls n0 A0 c0 gs0 HFW0.out _ (HCA0.out _ HB3a.out) HCP0.out).mono ?_; clear xBA0_0 xBA0_1; rintro e w4 ⟨v4, rfl, hs, hb⟩; obtain ⟨A4', c4', rfl⟩ := S_slice hs; have IT4_4 := Aside0.mk (Itm.new' hs (lo := w3.heap.size + 1) (by simp) (by have h_ := HB3a.out.size; first | simpa using h_ | exact Nat.le_refl _)); have HB4 := Aside0.mk (below_then (B := w.heap.size) HB3a.out HB3a.out.size hb); have HO4 := Aside0.mk (show w3.heap.size + 1 ≤ w4.heap.size by have h_ := hb.size; simpa using h_); have BA0_4 := Aside0.mk (blk_below BA0_3a.out hb); have BW_4 := Aside0.mk (blk_below BW_3a.out hb); have IT3_4 := Aside0.mk (ItmT.below IT3_3a.out hb); clear hb hs)
  have HB4a := Aside0.mk (show Below w.heap.size w (w4.alloc (.cells #[.int .i64 n0, .slice A4' gs0.length c4'] 58)) from HB4.out.alloc HB4.out.size _)
  have BA0_4a := Aside0.mk (blk_alloc BA0_4.out (.cells #[.int .i64 n0, .slice A4' gs0.length c4'] 58))
  have BW_4a := Aside0.mk (blk_alloc BW_4.out (.cells #[.int .i64 n0, .slice A4' gs0.length c4'] 58))
  have IT3_4a := Aside0.mk (ItmT.alloc IT3_4.out (.cells #[.int .i64 n0, .slice A4' gs0.length c4'] 58))
  have IT4_4a := Aside0.mk (Itm.alloc IT4_4.out (.cells #[.int .i64 n0, .slice A4' gs0.length c4'] 58))
  have BX0_4a := Aside0.mk (show (w4.alloc (.cells #[.int .i64 n0, .slice A4' gs0.length c4'] 58)).heap[w4.heap.size]? = some (.cells #[.int .i64 n0, .slice A4' gs0.length c4'] 58 (0, 0)) from by simpa using blk_new w4 (.cells #[.int .i64 n0, .slice A4' gs0.length c4'] 58))
  have xBX0_0 : (w4.alloc (.cells #[.int .i64 n0, .slice A4' gs0.length c4'] 58)).cell? ⟨w4.heap.size, 0, none⟩ = some (.int .i64 n0) := (blk_cell BX0_4a.out 0).trans rfl
  have xBX0_1 : (w4.alloc (.cells #[.int .i64 n0, .slice A4' gs0.length c4'] 58)).cell? ⟨w4.heap.size, 1, none⟩ = some (.slice A4' gs0.length c4') := (blk_cell BX0_4a.out 1).trans rfl
  go_wp2_with (fail)
  (refine (HIMA.out _ _ _ (Itm.C IT4_4a.out).2.2 (Itm.C IT4_4a.out).2.1).mono ?_; rintro e w5 ⟨u5, v5, rfl, hs1, hs, hb⟩; obtain ⟨B5', d5', rfl⟩ := R_slice hs1; obtain ⟨A5', c5', rfl⟩ := S_slice hs; have IT5_5 := Aside0.mk (ItmT.new' hs1 hs (lo := w4.heap.size + 1) (by simp) (by have h_ := HB4a.out.size; first | simpa using h_ | exact Nat.le_refl _)); have HB5 := Aside0.mk (below_then (B := w.heap.size) HB4a.out HB4a.out.size hb); have HO5 := Aside0.mk (show w4.heap.size + 1 ≤ w5.heap.size by have h_ := hb.size; simpa using h_); have BA0_5 := Aside0.mk (blk_below BA0_4a.out hb); have BW_5 := Aside0.mk (blk_below BW_4a.out hb); have BX0_5 := Aside0.mk (blk_below BX0_4a.out hb); have IT3_5 := Aside0.mk (ItmT.below IT3_4a.out hb); have IT4_5 := Aside0.mk (Itm.below IT4_4a.out hb); clear hb hs hs1)
  clear xBX0_0 xBX0_1
  have HB5a := Aside0.mk (show Below w.heap.size w (w5.alloc (.cells #[.int .i64 r1, .slice B5' rz.length d5', .slice A5' r2.length c5'] 27)) from HB5.out.alloc HB5.out.size _)
  have BA0_5a := Aside0.mk (blk_alloc BA0_5.out (.cells #[.int .i64 r1, .slice B5' rz.length d5', .slice A5' r2.length c5'] 27))
  have BW_5a := Aside0.mk (blk_alloc BW_5.out (.cells #[.int .i64 r1, .slice B5' rz.length d5', .slice A5' r2.length c5'] 27))
  have BX0_5a := Aside0.mk (blk_alloc BX0_5.out (.cells #[.int .i64 r1, .slice B5' rz.length d5', .slice A5' r2.length c5'] 27))
  have IT3_5a := Aside0.mk (ItmT.alloc IT3_5.out (.cells #[.int .i64 r1, .slice B5' rz.length d5', .slice A5' r2.length c5'] 27))
  have IT4_5a := Aside0.mk (Itm.alloc IT4_5.out (.cells #[.int .i64 r1, .slice B5' rz.length d5', .slice A5' r2.length c5'] 27))
  have IT5_5a := Aside0.mk (ItmT.alloc IT5_5.out (.cells #[.int .i64 r1, .slice B5' rz.length d5', .slice A5' r2.length c5'] 27))
  have BG_5a := Aside0.mk (show (w5.alloc (.cells #[.int .i64 r1, .slice B5' rz.length d5', .slice A5' r2.length c5'] 27)).heap[w5.heap.size]? = some (.cells #[.int .i64 r1, .slice B5' rz.length d5', .slice A5' r2.length c5'] 27 (0, 0)) from by simpa using blk_new w5 (.cells #[.int .i64 r1, .slice B5' rz.length d5', .slice A5' r2.length c5'] 27))
  have xBW_0 : (w5.alloc (.cells #[.int .i64 r1, .slice B5' rz.length d5', .slice A5' r2.length c5'] 27)).cell? ⟨w3.heap.size, 0, none⟩ = some (.int .i64 r1) := (blk_cell BW_5a.out 0).trans rfl
  have xBW_1 : (w5.alloc (.cells #[.int .i64 r1, .slice B5' rz.length d5', .slice A5' r2.length c5'] 27)).cell? ⟨w3.heap.size, 1, none⟩ = some (.slice B3' rz.length d3') := (blk_cell BW_5a.out 1).trans rfl
  have xBW_2 : (w5.alloc (.cells #[.int .i64 r1, .slice B5' rz.length d5', .slice A5' r2.length c5'] 27)).cell? ⟨w3.heap.size, 2, none⟩ = some (.slice A3' r2.length c3') := (blk_cell BW_5a.out 2).trans rfl
  have xBG_0 : (w5.alloc (.cells #[.int .i64 r1, .slice B5' rz.length d5', .slice A5' r2.length c5'] 27)).cell? ⟨w5.heap.size, 0, none⟩ = some (.int .i64 r1) := (blk_cell BG_5a.out 0).trans rfl
  have xBG_1 : (w5.alloc (.cells #[.int .i64 r1, .slice B5' rz.length d5', .slice A5' r2.length c5'] 27)).cell? ⟨w5.heap.size, 1, none⟩ = some (.slice B5' rz.length d5') := (blk_cell BG_5a.out 1).trans rfl
  have xBG_2 : (w5.alloc (.cells #[.int .i64 r1, .slice B5' rz.length d5', .slice A5' r2.length c5'] 27)).cell? ⟨w5.heap.size, 2, none⟩ = some (.slice A5' r2.length c5') := (blk_cell BG_5a.out 2).trans rfl
  go_wp2_with (fail)
  have HEQ := eqT_calls r1 r1 _ _ rz _ _ r2 _ _ rz _ _ r2 _ (ItmT.C IT5_5a.out).1.2.2 (ItmT.C IT5_5a.out).1.2.1 (ItmT.C IT5_5a.out).2.2.2 (ItmT.C IT5_5a.out).2.2.1 (ItmT.C IT3_5a.out).1.2.2 (ItmT.C IT3_5a.out).1.2.1 (ItmT.C IT3_5a.out).2.2.2 (ItmT.C IT3_5a.out).2.2.1
  rw [decide_eq_true (show r1 = r1 ∧ rz = rz ∧ r2 = r2 from ⟨rfl, rfl, rfl⟩)] at HEQ
  (refine HEQ.mono ?_; clear xBW_0 xBW_1 xBW_2 xBG_0 xBG_1 xBG_2; rintro e w6 ⟨rfl, hb⟩; have HB6 := Aside0.mk (below_then (B := w.heap.size) HB5a.out HB5a.out.size hb); have HO6 := Aside0.mk (show w5.heap.size + 1 ≤ w6.heap.size by have h_ := hb.size; simpa using h_); have BA0_6 := Aside0.mk (blk_below BA0_5a.out hb); have BW_6 := Aside0.mk (blk_below BW_5a.out hb); have BX0_6 := Aside0.mk (blk_below BX0_5a.out hb); have BG_6 := Aside0.mk (blk_below BG_5a.out hb); have IT3_6 := Aside0.mk (ItmT.below IT3_5a.out hb); have IT4_6 := Aside0.mk (Itm.below IT4_5a.out hb); have IT5_6 := Aside0.mk (ItmT.below IT5_5a.out hb); clear hb HEQ)
  have HK4 := Aside0.mk (fun (W : World) (hb : Below w6.heap.size w6 W) => show W.cell? ⟨w.heap.size, 0, none⟩ = some (.int .i64 n0) ∧ W.cell? ⟨w.heap.size, 1, none⟩ = some (.slice A0 gs0.length c0) ∧ W.cell? ⟨w4.heap.size, 0, none⟩ = some (.int .i64 n0) ∧ W.cell? ⟨w4.heap.size, 1, none⟩ = some (.slice A4' gs0.length c4') ∧ Below w6.heap.size w6 W from keep4 ((blk_cell BA0_6.out 0).trans rfl) ((blk_cell BA0_6.out 1).trans rfl) ((blk_cell BX0_6.out 0).trans rfl) ((blk_cell BX0_6.out 1).trans rfl) hb)
  go_wp2_with (fail)
  go_region_held3 (fun W => W.cell? ⟨w.heap.size, 0, none⟩ = some (.int .i64 n0) ∧ W.cell? ⟨w.heap.size, 1, none⟩ = some (.slice A0 gs0.length c0) ∧ W.cell? ⟨w4.heap.size, 0, none⟩ = some (.int .i64 n0) ∧ W.cell? ⟨w4.heap.size, 1, none⟩ = some (.slice A4' gs0.length c4') ∧ Below w6.heap.size w6 W) ((refine HK4.out _ ?_; (repeat (first | exact Below.refl _ _ | assumption | apply below_drew | apply pw_below_drewN)))) (first | (go_at_call 45; refine (toF_calls n0 A0 c0 gs0 HFW0.out _ (HCA0.out _ ?_) HCP0.out).mono ?_; (exact below_then (B := w.heap.size) HB6.out HB6.out.size (by (repeat (first | exact Below.refl _ _ | assumption | apply below_drew | apply pw_below_drewN)))); rintro e w7 ⟨v9, rfl, hs9, hb9⟩; obtain ⟨A9, c9, rfl, hl9, hC9⟩ := S_reads hs9; have HC9 := Aside0.mk hC9; have HL9 := Aside0.mk hl9; have hbr := below_then (show Below w6.heap.size w6 _ from by (repeat (first | exact Below.refl _ _ | assumption | apply below_drew | apply pw_below_drewN))) (by (first | (exact Nat.le_refl _) | (simp; done))) hb9; clear hb9 hs9 hC9 hl9) | (go_at_call 47; refine (eqF_calls n0 n0 _ _ _ _ gs0 gs0 _ (C_below (Itm.C IT4_6.out).2.2 ?_) (Itm.C IT4_6.out).2.1 (by repeat (first | exact HC9.out | apply C_drewN | apply C_drew)) HL9.out).mono ?_; (repeat (first | exact Below.refl _ _ | assumption | apply below_drew | apply pw_below_drewN)); rintro e w8 ⟨he, hb10⟩; rw [decide_eq_true (show n0 = n0 ∧ gs0 = gs0 from ⟨rfl, rfl⟩)] at he; subst he; have hbe := (below_then (show Below w6.heap.size w6 _ from by (repeat (first | exact Below.refl _ _ | assumption | apply below_drew | apply pw_below_drewN))) (by have h_ := hbr.size; (try simp at h_ ⊢); omega) hb10); have HBR := Aside0.mk hbe; clear hb10 hbr))
  clear hbe
  have HB8 := Aside0.mk (below_then (B := w.heap.size) HB6.out HB6.out.size HBR.out); have HO8 := Aside0.mk (show w6.heap.size ≤ w8.heap.size by have h_ := HBR.out.size; simpa using h_); have BA0_8 := Aside0.mk (blk_below BA0_6.out HBR.out); have BW_8 := Aside0.mk (blk_below BW_6.out HBR.out); have BX0_8 := Aside0.mk (blk_below BX0_6.out HBR.out); have BG_8 := Aside0.mk (blk_below BG_6.out HBR.out); have IT3_8 := Aside0.mk (ItmT.below IT3_6.out HBR.out); have IT4_8 := Aside0.mk (Itm.below IT4_6.out HBR.out); have IT5_8 := Aside0.mk (ItmT.below IT5_6.out HBR.out)
  clear HBR HC9 HL9 HK4
  have xBX0_0 : w8.cell? ⟨w4.heap.size, 0, none⟩ = some (.int .i64 n0) := (blk_cell BX0_8.out 0).trans rfl
  have xBX0_1 : w8.cell? ⟨w4.heap.size, 1, none⟩ = some (.slice A4' gs0.length c4') := (blk_cell BX0_8.out 1).trans rfl
  go_wp2_with (fail)
  obtain ⟨k9, hk9⟩ : ∃ k_ : Int, k_ = 1 + (total gs0 : Int) := ⟨_, rfl⟩
  have HM := markF_calls (fun k => w3.heap.size + 1 ≤ k ∧ k < w4.heap.size) n0 _ gs0 1 (by have ht0_ := HTT0.out; omega) (by have ht0_ := HTT0.out; omega) w _ HB8.out IT4_8.out.s (fun k hk => Nat.lt_of_lt_of_le hk.2 IT4_8.out.fit)
  rw [← hk9] at HM
  have HKE9 := Aside0.mk hk9
  clear hk9
  (refine HM.mono ?_; clear xBX0_0 xBX0_1; rintro e w9 ⟨rfl, hs, hb, hk⟩; have HB9 := Aside0.mk hb; have HO9 := Aside0.mk (show w8.heap.size ≤ w9.heap.size by have h_ := hk.1; simpa using h_); have BA0_9 := Aside0.mk (blk_kept BA0_8.out hk (fun h_ => by have o_HO1 := HO1.out; have o_HO2 := HO2.out; have o_HO3 := HO3.out; have o_HO4 := HO4.out; have o_HO5 := HO5.out; have o_HO6 := HO6.out; have o_HO8 := HO8.out; obtain ⟨h1_, h2_⟩ := h_; omega)); have BW_9 := Aside0.mk (blk_kept BW_8.out hk (fun h_ => by have o_HO1 := HO1.out; have o_HO2 := HO2.out; have o_HO3 := HO3.out; have o_HO4 := HO4.out; have o_HO5 := HO5.out; have o_HO6 := HO6.out; have o_HO8 := HO8.out; obtain ⟨h1_, h2_⟩ := h_; omega)); have BX0_9 := Aside0.mk (blk_kept BX0_8.out hk (fun h_ => by have o_HO1 := HO1.out; have o_HO2 := HO2.out; have o_HO3 := HO3.out; have o_HO4 := HO4.out; have o_HO5 := HO5.out; have o_HO6 := HO6.out; have o_HO8 := HO8.out; obtain ⟨h1_, h2_⟩ := h_; omega)); have BG_9 := Aside0.mk (blk_kept BG_8.out hk (fun h_ => by have o_HO1 := HO1.out; have o_HO2 := HO2.out; have o_HO3 := HO3.out; have o_HO4 := HO4.out; have o_HO5 := HO5.out; have o_HO6 := HO6.out; have o_HO8 := HO8.out; obtain ⟨h1_, h2_⟩ := h_; omega)); have IT3_9 := Aside0.mk (ItmT.kept IT3_8.out hk (fun k h_ h2_ => by have o_HO1 := HO1.out; have o_HO2 := HO2.out; have o_HO3 := HO3.out; have o_HO4 := HO4.out; have o_HO5 := HO5.out; have o_HO6 := HO6.out; have o_HO8 := HO8.out; obtain ⟨h3_, h4_⟩ := h_; obtain ⟨h5_, h6_⟩ := h2_; omega)); have IT5_9 := Aside0.mk (ItmT.kept IT5_8.out hk (fun k h_ h2_ => by have o_HO1 := HO1.out; have o_HO2 := HO2.out; have o_HO3 := HO3.out; have o_HO4 := HO4.out; have o_HO5 := HO5.out; have o_HO6 := HO6.out; have o_HO8 := HO8.out; obtain ⟨h3_, h4_⟩ := h_; obtain ⟨h5_, h6_⟩ := h2_; omega)); have IT4_9 := Aside0.mk (show Itm w9 w.heap.size _ (markG gs0 1) (w3.heap.size + 1) (w4.heap.size) from ⟨hs, Nat.le_trans IT4_8.out.fit hk.1⟩); clear hb hs hk HM)
  have kn : decide (k9 < 0) = false := decide_eq_false (by have hHKE9_ := HKE9.out; have ht0_ := HTT0.out; omega)
  have xBW_0 : w9.cell? ⟨w3.heap.size, 0, none⟩ = some (.int .i64 r1) := (blk_cell BW_9.out 0).trans rfl
  have xBW_1 : w9.cell? ⟨w3.heap.size, 1, none⟩ = some (.slice B3' rz.length d3') := (blk_cell BW_9.out 1).trans rfl
  have xBW_2 : w9.cell? ⟨w3.heap.size, 2, none⟩ = some (.slice A3' r2.length c3') := (blk_cell BW_9.out 2).trans rfl
  have xBG_0 : w9.cell? ⟨w5.heap.size, 0, none⟩ = some (.int .i64 r1) := (blk_cell BG_9.out 0).trans rfl
  have xBG_1 : w9.cell? ⟨w5.heap.size, 1, none⟩ = some (.slice B5' rz.length d5') := (blk_cell BG_9.out 1).trans rfl
  have xBG_2 : w9.cell? ⟨w5.heap.size, 2, none⟩ = some (.slice A5' r2.length c5') := (blk_cell BG_9.out 2).trans rfl
  go_wp2_with (fail)
  have HEQ := eqT_calls r1 r1 _ _ rz _ _ r2 _ _ rz _ _ r2 _ (ItmT.C IT5_9.out).1.2.2 (ItmT.C IT5_9.out).1.2.1 (ItmT.C IT5_9.out).2.2.2 (ItmT.C IT5_9.out).2.2.1 (ItmT.C IT3_9.out).1.2.2 (ItmT.C IT3_9.out).1.2.1 (ItmT.C IT3_9.out).2.2.2 (ItmT.C IT3_9.out).2.2.1
  rw [decide_eq_true (show r1 = r1 ∧ rz = rz ∧ r2 = r2 from ⟨rfl, rfl, rfl⟩)] at HEQ
  (refine HEQ.mono ?_; clear xBW_0 xBW_1 xBW_2 xBG_0 xBG_1 xBG_2; rintro e w10 ⟨rfl, hb⟩; have HB10 := Aside0.mk (below_then (B := w.heap.size) HB9.out HB9.out.size hb); have HO10 := Aside0.mk (show w9.heap.size ≤ w10.heap.size by have h_ := hb.size; simpa using h_); have BA0_10 := Aside0.mk (blk_below BA0_9.out hb); have BW_10 := Aside0.mk (blk_below BW_9.out hb); have BX0_10 := Aside0.mk (blk_below BX0_9.out hb); have BG_10 := Aside0.mk (blk_below BG_9.out hb); have IT3_10 := Aside0.mk (ItmT.below IT3_9.out hb); have IT4_10 := Aside0.mk (Itm.below IT4_9.out hb); have IT5_10 := Aside0.mk (ItmT.below IT5_9.out hb); clear hb HEQ)
  clear kn
  have xBG_0 : w10.cell? ⟨w5.heap.size, 0, none⟩ = some (.int .i64 r1) := (blk_cell BG_10.out 0).trans rfl
  have xBG_1 : w10.cell? ⟨w5.heap.size, 1, none⟩ = some (.slice B5' rz.length d5') := (blk_cell BG_10.out 1).trans rfl
  have xBG_2 : w10.cell? ⟨w5.heap.size, 2, none⟩ = some (.slice A5' r2.length c5') := (blk_cell BG_10.out 2).trans rfl
  go_wp2_with (fail)
  obtain ⟨k11, hk11⟩ : ∃ k_ : Int, k_ = 1 + (rz.length : Int) + (totT r2 : Int) := ⟨_, rfl⟩
  have HM := markTable_calls (w4.heap.size + 1) (w5.heap.size) r1 _ rz _ r2 1 (by decide) HRB.out w _ HB10.out IT5_10.out
  rw [← hk11] at HM
  have HKE11 := Aside0.mk hk11
  clear hk11
  (refine HM.mono ?_; clear xBG_0 xBG_1 xBG_2; rintro e w11 ⟨rfl, hs, hb, hk⟩; have HB11 := Aside0.mk hb; have HO11 := Aside0.mk (show w10.heap.size ≤ w11.heap.size by have h_ := hk.1; simpa using h_); have BA0_11 := Aside0.mk (blk_kept BA0_10.out hk (fun h_ => by have o_HO1 := HO1.out; have o_HO2 := HO2.out; have o_HO3 := HO3.out; have o_HO4 := HO4.out; have o_HO5 := HO5.out; have o_HO6 := HO6.out; have o_HO8 := HO8.out; have o_HO9 := HO9.out; have o_HO10 := HO10.out; obtain ⟨h1_, h2_⟩ := h_; omega)); have BW_11 := Aside0.mk (blk_kept BW_10.out hk (fun h_ => by have o_HO1 := HO1.out; have o_HO2 := HO2.out; have o_HO3 := HO3.out; have o_HO4 := HO4.out; have o_HO5 := HO5.out; have o_HO6 := HO6.out; have o_HO8 := HO8.out; have o_HO9 := HO9.out; have o_HO10 := HO10.out; obtain ⟨h1_, h2_⟩ := h_; omega)); have BX0_11 := Aside0.mk (blk_kept BX0_10.out hk (fun h_ => by have o_HO1 := HO1.out; have o_HO2 := HO2.out; have o_HO3 := HO3.out; have o_HO4 := HO4.out; have o_HO5 := HO5.out; have o_HO6 := HO6.out; have o_HO8 := HO8.out; have o_HO9 := HO9.out; have o_HO10 := HO10.out; obtain ⟨h1_, h2_⟩ := h_; omega)); have BG_11 := Aside0.mk (blk_kept BG_10.out hk (fun h_ => by have o_HO1 := HO1.out; have o_HO2 := HO2.out; have o_HO3 := HO3.out; have o_HO4 := HO4.out; have o_HO5 := HO5.out; have o_HO6 := HO6.out; have o_HO8 := HO8.out; have o_HO9 := HO9.out; have o_HO10 := HO10.out; obtain ⟨h1_, h2_⟩ := h_; omega)); have IT3_11 := Aside0.mk (ItmT.kept IT3_10.out hk (fun k h_ h2_ => by have o_HO1 := HO1.out; have o_HO2 := HO2.out; have o_HO3 := HO3.out; have o_HO4 := HO4.out; have o_HO5 := HO5.out; have o_HO6 := HO6.out; have o_HO8 := HO8.out; have o_HO9 := HO9.out; have o_HO10 := HO10.out; obtain ⟨h3_, h4_⟩ := h_; obtain ⟨h5_, h6_⟩ := h2_; omega)); have IT4_11 := Aside0.mk (Itm.kept IT4_10.out hk (fun k h_ h2_ => by have o_HO1 := HO1.out; have o_HO2 := HO2.out; have o_HO3 := HO3.out; have o_HO4 := HO4.out; have o_HO5 := HO5.out; have o_HO6 := HO6.out; have o_HO8 := HO8.out; have o_HO9 := HO9.out; have o_HO10 := HO10.out; obtain ⟨h3_, h4_⟩ := h_; obtain ⟨h5_, h6_⟩ := h2_; omega)); have IT5_11 := Aside0.mk hs; clear hb hs hk HM)
  have kn : decide (k11 < 0) = false := decide_eq_false (by have h_ := HKE11.out; omega)
  have xBG_0 : w11.cell? ⟨w5.heap.size, 0, none⟩ = some (.int .i64 r1) := (blk_cell BG_11.out 0).trans rfl
  have xBG_1 : w11.cell? ⟨w5.heap.size, 1, none⟩ = some (.slice B5' rz.length d5') := (blk_cell BG_11.out 1).trans rfl
  have xBG_2 : w11.cell? ⟨w5.heap.size, 2, none⟩ = some (.slice A5' r2.length c5') := (blk_cell BG_11.out 2).trans rfl
  go_wp2_with (fail)
  have HM := heldT_at r1 _ _ rz _ _ r2 1 (by decide) HRB.out _ _ _ ⟨_, _, _, IT5_11.out⟩
  rw [← HKE11.out] at HM
  (refine HM.mono ?_; clear xBG_0 xBG_1 xBG_2; rintro e w12 ⟨rfl, hb⟩; have HB12 := Aside0.mk (below_then (B := w.heap.size) HB11.out HB11.out.size hb); have HO12 := Aside0.mk (show w11.heap.size ≤ w12.heap.size by have h_ := hb.size; simpa using h_); have BA0_12 := Aside0.mk (blk_below BA0_11.out hb); have BW_12 := Aside0.mk (blk_below BW_11.out hb); have BX0_12 := Aside0.mk (blk_below BX0_11.out hb); have BG_12 := Aside0.mk (blk_below BG_11.out hb); have IT3_12 := Aside0.mk (ItmT.below IT3_11.out hb); have IT4_12 := Aside0.mk (Itm.below IT4_11.out hb); have IT5_12 := Aside0.mk (ItmT.below IT5_11.out hb); clear hb HM)
  have xBA0_0 : w12.cell? ⟨w.heap.size, 0, none⟩ = some (.int .i64 n0) := (blk_cell BA0_12.out 0).trans rfl
  have xBA0_1 : w12.cell? ⟨w.heap.size, 1, none⟩ = some (.slice A0 gs0.length c0) := (blk_cell BA0_12.out 1).trans rfl
  go_wp2_with (fail)
  (refine (toF_calls n0 A0 c0 gs0 HFW0.out _ (HCA0.out _ HB12.out) HCP0.out).mono ?_; clear xBA0_0 xBA0_1; rintro e w13 ⟨v13, rfl, hs, hb⟩; obtain ⟨A13', c13', rfl⟩ := S_slice hs; have IT13_13 := Aside0.mk (Itm.new' hs (lo := w12.heap.size) (by simp) (by have h_ := HB12.out.size; first | simpa using h_ | exact Nat.le_refl _)); have HB13 := Aside0.mk (below_then (B := w.heap.size) HB12.out HB12.out.size hb); have HO13 := Aside0.mk (show w12.heap.size ≤ w13.heap.size by have h_ := hb.size; simpa using h_); have BA0_13 := Aside0.mk (blk_below BA0_12.out hb); have BW_13 := Aside0.mk (blk_below BW_12.out hb); have BX0_13 := Aside0.mk (blk_below BX0_12.out hb); have BG_13 := Aside0.mk (blk_below BG_12.out hb); have IT3_13 := Aside0.mk (ItmT.below IT3_12.out hb); have IT4_13 := Aside0.mk (Itm.below IT4_12.out hb); have IT5_13 := Aside0.mk (ItmT.below IT5_12.out hb); clear hb hs)
  go_wp2_with (fail)
  (refine (HIMA.out _ _ _ (Itm.C IT13_13.out).2.2 (Itm.C IT13_13.out).2.1).mono ?_; rintro e w14 ⟨u14, v14, rfl, hs1, hs, hb⟩; obtain ⟨B14', d14', rfl⟩ := R_slice hs1; obtain ⟨A14', c14', rfl⟩ := S_slice hs; have IT14_14 := Aside0.mk (ItmT.new' hs1 hs (lo := w13.heap.size) (by simp) (by have h_ := HB13.out.size; first | simpa using h_ | exact Nat.le_refl _)); have HB14 := Aside0.mk (below_then (B := w.heap.size) HB13.out HB13.out.size hb); have HO14 := Aside0.mk (show w13.heap.size ≤ w14.heap.size by have h_ := hb.size; simpa using h_); have BA0_14 := Aside0.mk (blk_below BA0_13.out hb); have BW_14 := Aside0.mk (blk_below BW_13.out hb); have BX0_14 := Aside0.mk (blk_below BX0_13.out hb); have BG_14 := Aside0.mk (blk_below BG_13.out hb); have IT3_14 := Aside0.mk (ItmT.below IT3_13.out hb); have IT4_14 := Aside0.mk (Itm.below IT4_13.out hb); have IT5_14 := Aside0.mk (ItmT.below IT5_13.out hb); have IT13_14 := Aside0.mk (Itm.below IT13_13.out hb); clear hb hs hs1)
  clear IT13_14
  have HB14a := Aside0.mk (show Below w.heap.size w (w14.alloc (.cells #[.int .i64 r1, .slice B14' rz.length d14', .slice A14' r2.length c14'] 27)) from HB14.out.alloc HB14.out.size _)
  have BA0_14a := Aside0.mk (blk_alloc BA0_14.out (.cells #[.int .i64 r1, .slice B14' rz.length d14', .slice A14' r2.length c14'] 27))
  have BW_14a := Aside0.mk (blk_alloc BW_14.out (.cells #[.int .i64 r1, .slice B14' rz.length d14', .slice A14' r2.length c14'] 27))
  have BX0_14a := Aside0.mk (blk_alloc BX0_14.out (.cells #[.int .i64 r1, .slice B14' rz.length d14', .slice A14' r2.length c14'] 27))
  have BG_14a := Aside0.mk (blk_alloc BG_14.out (.cells #[.int .i64 r1, .slice B14' rz.length d14', .slice A14' r2.length c14'] 27))
  have IT3_14a := Aside0.mk (ItmT.alloc IT3_14.out (.cells #[.int .i64 r1, .slice B14' rz.length d14', .slice A14' r2.length c14'] 27))
  have IT4_14a := Aside0.mk (Itm.alloc IT4_14.out (.cells #[.int .i64 r1, .slice B14' rz.length d14', .slice A14' r2.length c14'] 27))
  have IT5_14a := Aside0.mk (ItmT.alloc IT5_14.out (.cells #[.int .i64 r1, .slice B14' rz.length d14', .slice A14' r2.length c14'] 27))
  have IT14_14a := Aside0.mk (ItmT.alloc IT14_14.out (.cells #[.int .i64 r1, .slice B14' rz.length d14', .slice A14' r2.length c14'] 27))
  have BH_14a := Aside0.mk (show (w14.alloc (.cells #[.int .i64 r1, .slice B14' rz.length d14', .slice A14' r2.length c14'] 27)).heap[w14.heap.size]? = some (.cells #[.int .i64 r1, .slice B14' rz.length d14', .slice A14' r2.length c14'] 27 (0, 0)) from by simpa using blk_new w14 (.cells #[.int .i64 r1, .slice B14' rz.length d14', .slice A14' r2.length c14'] 27))
  have xBW_0 : (w14.alloc (.cells #[.int .i64 r1, .slice B14' rz.length d14', .slice A14' r2.length c14'] 27)).cell? ⟨w3.heap.size, 0, none⟩ = some (.int .i64 r1) := (blk_cell BW_14a.out 0).trans rfl
  have xBW_1 : (w14.alloc (.cells #[.int .i64 r1, .slice B14' rz.length d14', .slice A14' r2.length c14'] 27)).cell? ⟨w3.heap.size, 1, none⟩ = some (.slice B3' rz.length d3') := (blk_cell BW_14a.out 1).trans rfl
  have xBW_2 : (w14.alloc (.cells #[.int .i64 r1, .slice B14' rz.length d14', .slice A14' r2.length c14'] 27)).cell? ⟨w3.heap.size, 2, none⟩ = some (.slice A3' r2.length c3') := (blk_cell BW_14a.out 2).trans rfl
  have xBH_0 : (w14.alloc (.cells #[.int .i64 r1, .slice B14' rz.length d14', .slice A14' r2.length c14'] 27)).cell? ⟨w14.heap.size, 0, none⟩ = some (.int .i64 r1) := (blk_cell BH_14a.out 0).trans rfl
  have xBH_1 : (w14.alloc (.cells #[.int .i64 r1, .slice B14' rz.length d14', .slice A14' r2.length c14'] 27)).cell? ⟨w14.heap.size, 1, none⟩ = some (.slice B14' rz.length d14') := (blk_cell BH_14a.out 1).trans rfl
  have xBH_2 : (w14.alloc (.cells #[.int .i64 r1, .slice B14' rz.length d14', .slice A14' r2.length c14'] 27)).cell? ⟨w14.heap.size, 2, none⟩ = some (.slice A14' r2.length c14') := (blk_cell BH_14a.out 2).trans rfl
  go_wp2_with (fail)
  have HEQ := eqT_calls r1 r1 _ _ rz _ _ r2 _ _ rz _ _ r2 _ (ItmT.C IT14_14a.out).1.2.2 (ItmT.C IT14_14a.out).1.2.1 (ItmT.C IT14_14a.out).2.2.2 (ItmT.C IT14_14a.out).2.2.1 (ItmT.C IT3_14a.out).1.2.2 (ItmT.C IT3_14a.out).1.2.1 (ItmT.C IT3_14a.out).2.2.2 (ItmT.C IT3_14a.out).2.2.1
  rw [decide_eq_true (show r1 = r1 ∧ rz = rz ∧ r2 = r2 from ⟨rfl, rfl, rfl⟩)] at HEQ
  (refine HEQ.mono ?_; clear xBW_0 xBW_1 xBW_2 xBH_0 xBH_1 xBH_2; rintro e w15 ⟨rfl, hb⟩; have HB15 := Aside0.mk (below_then (B := w.heap.size) HB14a.out HB14a.out.size hb); have HO15 := Aside0.mk (show w14.heap.size + 1 ≤ w15.heap.size by have h_ := hb.size; simpa using h_); have BA0_15 := Aside0.mk (blk_below BA0_14a.out hb); have BW_15 := Aside0.mk (blk_below BW_14a.out hb); have BX0_15 := Aside0.mk (blk_below BX0_14a.out hb); have BG_15 := Aside0.mk (blk_below BG_14a.out hb); have BH_15 := Aside0.mk (blk_below BH_14a.out hb); have IT3_15 := Aside0.mk (ItmT.below IT3_14a.out hb); have IT4_15 := Aside0.mk (Itm.below IT4_14a.out hb); have IT5_15 := Aside0.mk (ItmT.below IT5_14a.out hb); have IT14_15 := Aside0.mk (ItmT.below IT14_14a.out hb); clear hb HEQ)
  have xBG_0 : w15.cell? ⟨w5.heap.size, 0, none⟩ = some (.int .i64 r1) := (blk_cell BG_15.out 0).trans rfl
  have xBG_1 : w15.cell? ⟨w5.heap.size, 1, none⟩ = some (.slice B5' rz.length d5') := (blk_cell BG_15.out 1).trans rfl
  have xBG_2 : w15.cell? ⟨w5.heap.size, 2, none⟩ = some (.slice A5' r2.length c5') := (blk_cell BG_15.out 2).trans rfl
  go_wp2_with (fail)
  have HM := heldT_at r1 _ _ rz _ _ r2 1 (by decide) HRB.out _ _ _ ⟨_, _, _, IT5_15.out⟩
  rw [← HKE11.out] at HM
  (refine HM.mono ?_; clear xBG_0 xBG_1 xBG_2; rintro e w16 ⟨rfl, hb⟩; have HB16 := Aside0.mk (below_then (B := w.heap.size) HB15.out HB15.out.size hb); have HO16 := Aside0.mk (show w15.heap.size ≤ w16.heap.size by have h_ := hb.size; simpa using h_); have BA0_16 := Aside0.mk (blk_below BA0_15.out hb); have BW_16 := Aside0.mk (blk_below BW_15.out hb); have BX0_16 := Aside0.mk (blk_below BX0_15.out hb); have BG_16 := Aside0.mk (blk_below BG_15.out hb); have BH_16 := Aside0.mk (blk_below BH_15.out hb); have IT3_16 := Aside0.mk (ItmT.below IT3_15.out hb); have IT4_16 := Aside0.mk (Itm.below IT4_15.out hb); have IT5_16 := Aside0.mk (ItmT.below IT5_15.out hb); have IT14_16 := Aside0.mk (ItmT.below IT14_15.out hb); clear hb HM)
  go_wp2_with (fail)
  go_ret
  exact ⟨rfl, HB16.out⟩

end Go.Proofs.Ytdahdeohmbadhaa.ExFamilyTable
