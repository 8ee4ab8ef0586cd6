/- Contract of the program's FamilyTable, with the walk's own value. -/
import Derived.Test.YtdahdeohmbadhaaTFamC
import Derived.Test.YtdahdeohmbadhaaTRep
import Derived.Test.YtdahdeohmbadhaaTTail
import Derived.Test.YtdahdeohmbadhaaGx10
import Derived.Test.YtdahdeohmbadhaaGx2
import Derived.Deep.RegionHeld3
namespace Go.Proofs.Ytdahdeohmbadhaa.TFam
open Go.RowKit Go.Lib Go.Proofs Go.Proofs.YtdahdeohmbadhaaW.PrintWords Go.Proofs.YtdahdeohmbadhaaW.PrintWords.Kd Go.Proofs.YtdahdeohmbadhaaW.PrintLast Go.Proofs.YtdahdeohmbadhaaW.PrintMore Go.Proofs.Ytdahdeohmbadhaa.G Go.Proofs.Ytdahdeohmbadhaa.Fam Go.Proofs.Ytdahdeohmbadhaa.Loops Go.Proofs.Ytdahdeohmbadhaa.TMade
attribute [local go_sem] max2_int min2_int max_two min_two max_three min_three max_four min_four
set_option linter.unusedVariables false
set_option linter.unusedSimpArgs false

mutual
def impl_FamilyTable.j0 : Nat → Int → Bool → Int → List (List Int) → Option (Int × List Int × (List (S87)) × Int)
 | 0, _, _, _, _ => none
 | k + 1, x1, x33, x159000, x159001 => if x33 = true then (some (0, ([] : List Int), ([] : List (S87)), 2)) else ((TRep.RepF (([1] : List Int)) x159000).bind fun t167 => (impl_FamilyTable.l0 k x1 1 t167 x159001 (x159001.length : Int) 0 x159000 x159001))
def impl_FamilyTable.l0 : Nat → Int → Int → List Int → List (List Int) → Int → Int → Int → List (List Int) → Option (Int × List Int × (List (S87)) × Int)
 | 0, _, _, _, _, _, _, _, _ => none
 | k + 1, x1, x6, x7, x40, x41, x42, x159000, x159001 => if x42 < x41 then (if 0 ≤ x42 then (if x42 < (x40.length : Int) then (impl_FamilyTable.l1 k x1 (wrap64 (x6 + (wrap64 (((rd_L1 x40 x42).length : Int) - 1)))) x7 x40 x41 x42 (rd_L1 x40 x42) ((rd_L1 x40 x42).length : Int) 0 x159000 x159001) else (none)) else (none)) else ((impl_times.f k x1 x6 700).bind fun t174 => (if t174 > 700 then (impl_FamilyTable.j3 k x1 x6 x7 true x159000 x159001) else ((TMax.MaxF x7).bind fun t175 => (impl_FamilyTable.j3 k x1 x6 x7 (decide (t175 > 64)) x159000 x159001))))
def impl_FamilyTable.l1 : Nat → Int → Int → List Int → List (List Int) → Int → Int → List Int → Int → Int → Int → List (List Int) → Option (Int × List Int × (List (S87)) × Int)
 | 0, _, _, _, _, _, _, _, _, _, _, _ => none
 | k + 1, x1, x6, x7, x40, x41, x42, x51, x52, x53, x159000, x159001 => if x53 < x52 then (if 0 ≤ x53 then (if x53 < (x51.length : Int) then (if 0 ≤ (rd x51 x53) then (if (rd x51 x53) < (x7.length : Int) then (impl_FamilyTable.l1 k x1 x6 (x7.set ((rd x51 x53) : Int).toNat (mn 65 (wrap64 ((rd x7 (rd x51 x53)) * x1)))) x40 x41 x42 x51 x52 (wrap64 (x53 + 1)) x159000 x159001) else (none)) else (none)) else (none)) else (none)) else (impl_FamilyTable.l0 k x1 x6 x7 x40 x41 (wrap64 (x42 + 1)) x159000 x159001)
def impl_FamilyTable.j3 : Nat → Int → Int → List Int → Bool → Int → List (List Int) → Option (Int × List Int × (List (S87)) × Int)
 | 0, _, _, _, _, _, _ => none
 | k + 1, x1, x6, x7, x77, x159000, x159001 => if x77 = true then (some (0, ([] : List Int), ([] : List (S87)), 3)) else ((rowsF x6 x1 x159000 x159001).bind fun t179 => ((impl_tableOrLimit.f k x1 x7 t179).bind fun bt182 => (some (bt182.1, bt182.2.1, bt182.2.2.1, bt182.2.2.2))))
end
def impl_FamilyTable.f (k : Nat) (a0_0 : Int) (l0_1 : List (List Int)) (a1 : Int) : Option (Int × List Int × (List (S87)) × Int) := (impl_ValidFamily.f k a0_0 l0_1).bind fun t161 => (if t161 = true then ((impl_within.f a1 1 64).bind fun t162 => (if t162 = true then (if (l0_1.length : Int) = 0 then (impl_FamilyTable.j0 k a1 true a0_0 l0_1) else (if 0 < (l0_1.length : Int) then (impl_FamilyTable.j0 k a1 (((rd_L1 l0_1 0).length : Int) == 0) a0_0 l0_1) else (none))) else (impl_FamilyTable.j0 k a1 true a0_0 l0_1))) else (some (0, ([] : List Int), ([] : List (S87)), 1)))
theorem impl_FamilyTable.mono_l : ∀ k, (∀ y0 y1 y2 y3, LeO (impl_FamilyTable.j0 k y0 y1 y2 y3) (impl_FamilyTable.j0 (k + 1) y0 y1 y2 y3)) ∧ (∀ y0 y1 y2 y3 y4 y5 y6 y7, LeO (impl_FamilyTable.l0 k y0 y1 y2 y3 y4 y5 y6 y7) (impl_FamilyTable.l0 (k + 1) y0 y1 y2 y3 y4 y5 y6 y7)) ∧ (∀ y0 y1 y2 y3 y4 y5 y6 y7 y8 y9 y10, LeO (impl_FamilyTable.l1 k y0 y1 y2 y3 y4 y5 y6 y7 y8 y9 y10) (impl_FamilyTable.l1 (k + 1) y0 y1 y2 y3 y4 y5 y6 y7 y8 y9 y10)) ∧ (∀ y0 y1 y2 y3 y4 y5, LeO (impl_FamilyTable.j3 k y0 y1 y2 y3 y4 y5) (impl_FamilyTable.j3 (k + 1) y0 y1 y2 y3 y4 y5))
 | 0 => ⟨fun _ _ _ _ r h => by simp [impl_FamilyTable.j0] at h, fun _ _ _ _ _ _ _ _ r h => by simp [impl_FamilyTable.l0] at h, fun _ _ _ _ _ _ _ _ _ _ _ r h => by simp [impl_FamilyTable.l1] at h, fun _ _ _ _ _ _ r h => by simp [impl_FamilyTable.j3] at h⟩
 | k + 1 => by
  obtain ⟨ih0, ih1, ih2, ih3⟩ := impl_FamilyTable.mono_l k
  refine ⟨?_, ?_, ?_, ?_⟩
  all_goals (intros; first | unfold impl_FamilyTable.j0 | unfold impl_FamilyTable.l0 | unfold impl_FamilyTable.l1 | unfold impl_FamilyTable.j3)
  all_goals repeat' first
  | (with_reducible exact ih0 _ _ _ _)
  | (with_reducible exact ih1 _ _ _ _ _ _ _ _)
  | (with_reducible exact ih2 _ _ _ _ _ _ _ _ _ _ _)
  | (with_reducible exact ih3 _ _ _ _ _ _)
  | (with_reducible exact impl_ValidFamily.mono _ _ _)
  | (with_reducible exact impl_tableOrLimit.mono _ _ _ _)
  | (with_reducible exact impl_times.mono _ _ _ _)
  | (with_reducible exact LeO.refl _)
  | (with_reducible exact LeO.none _)
  | (with_reducible refine LeO.ite ?_ ?_)
  | (with_reducible refine LeO.bind ?_ (fun _ => ?_))
  | exact ih0 _ _ _ _
  | exact ih1 _ _ _ _ _ _ _ _
  | exact ih2 _ _ _ _ _ _ _ _ _ _ _
  | exact ih3 _ _ _ _ _ _
  | exact impl_ValidFamily.mono _ _ _
  | exact impl_tableOrLimit.mono _ _ _ _
  | exact impl_times.mono _ _ _ _
  | exact LeO.none _
  | refine LeO.ite ?_ ?_
  | refine LeO.bind ?_ (fun _ => ?_)
theorem impl_FamilyTable.mono : ∀ a0 a1 a2 k, LeO (impl_FamilyTable.f k a0 a1 a2) (impl_FamilyTable.f (k + 1) a0 a1 a2) := by
 intro a0 a1 a2 k
 obtain ⟨ih0, ih1, ih2, ih3⟩ := impl_FamilyTable.mono_l k
 unfold impl_FamilyTable.f
 repeat' first
   | (with_reducible exact ih0 _ _ _ _)
   | (with_reducible exact ih1 _ _ _ _ _ _ _ _)
   | (with_reducible exact ih2 _ _ _ _ _ _ _ _ _ _ _)
   | (with_reducible exact ih3 _ _ _ _ _ _)
   | (with_reducible exact impl_ValidFamily.mono _ _ _)
   | (with_reducible exact impl_tableOrLimit.mono _ _ _ _)
   | (with_reducible exact impl_times.mono _ _ _ _)
   | (with_reducible exact LeO.refl _)
   | (with_reducible exact LeO.none _)
   | (with_reducible refine LeO.ite ?_ ?_)
   | (with_reducible refine LeO.bind ?_ (fun _ => ?_))
   | exact ih0 _ _ _ _
   | exact ih1 _ _ _ _ _ _ _ _
   | exact ih2 _ _ _ _ _ _ _ _ _ _ _
   | exact ih3 _ _ _ _ _ _
   | exact impl_ValidFamily.mono _ _ _
   | exact impl_tableOrLimit.mono _ _ _ _
   | exact impl_times.mono _ _ _ _
   | exact LeO.none _
   | refine LeO.ite ?_ ?_
   | refine LeO.bind ?_ (fun _ => ?_)
def impl_FamilyTable.T13 : Bool × List (List Nat × List Nat) := (true, [([], []), ([], []), ([], []), ([], []), ([2, 3], [2, 3]), ([4], [4]), ([], []), ([5, 6], [5, 6]), ([7], [7]), ([0, 1, 0, 1, 2, 3, 4, 5, 6, 7, 8], [0, 1]), ([9, 8, 0, 1, 2, 3, 4, 5, 6, 7, 8], [8, 9])])
def impl_FamilyTable.B13 : List Nat := [0, 0, 0, 0, 12, 28, 0, 124, 252, 511, 1023]
theorem impl_FamilyTable.tab13 : rtab .any (opsOf Try.f46 13) = impl_FamilyTable.T13 := by kernel_rfl
theorem impl_FamilyTable.bits13 : waitsOk impl_FamilyTable.T13.2 impl_FamilyTable.B13 = true := by kernel_rfl
set_option maxHeartbeats 8000000 in
set_option maxRecDepth 100000 in
theorem impl_FamilyTable.calls (k : Nat) (a0_0 : Int) (A0_1 : Option Addr) (c0_1 : Nat) (l0_1 : List (List Int)) (a1 : Int) (r1 : Int) (r2 : List Int) (r3 : List (S87)) (r4 : Int) (w : World) (hr0_1 : Kd.C (Kd.slice 2 (Kd.int .i64)) w A0_1 l0_1.length l0_1) (hc0_1 : l0_1.length ≤ c0_1) (h : impl_FamilyTable.f k a0_0 l0_1 a1 = some (r1, r2, r3, r4)) :
  Calls Try.prog 46 #[.agg #[.int .i64 a0_0, .slice A0_1 l0_1.length c0_1], .int .i64 a1] w fun e w' => ∃ v1_ v2_ : Value, e = .returned (.tuple #[.agg #[.int .i64 r1, v1_, v2_], .int .i64 r4]) ∧ Kd.R (Kd.int .i64) 2 w' w.heap.size (fun _ => True) v1_ r2 ∧ Kd.S k87 87 w' w.heap.size (fun k_ => some k_ ≠ (v1_ : Value).ownBlock) v2_ r3 ∧ Below w.heap.size w w' := by
 have hu58 := Try.underlying58
 have hu27 := Try.underlying27
 have HR0_1 := Aside0.mk hr0_1
 have HC0_1 := Aside0.mk hc0_1
 clear hr0_1 hc0_1
 have HB := Aside0.mk (Below.refl w.heap.size w)
 have H : ((impl_ValidFamily.f k a0_0 l0_1).bind fun t161 => (if t161 = true then ((impl_within.f a1 1 64).bind fun t162 => (if t162 = true then (if (l0_1.length : Int) = 0 then (impl_FamilyTable.j0 k a1 true a0_0 l0_1) else (if 0 < (l0_1.length : Int) then (impl_FamilyTable.j0 k a1 (((rd_L1 l0_1 0).length : Int) == 0) a0_0 l0_1) else (none))) else (impl_FamilyTable.j0 k a1 true a0_0 l0_1))) else (some (0, ([] : List Int), ([] : List (S87)), 1)))) = some (r1, r2, r3, r4) := h
 clear h
 replace H := Option.bind_eq_some_iff.mp H
 obtain ⟨t161, A30, H⟩ := H
 replace H : (if t161 = true then ((impl_within.f a1 1 64).bind fun t162 => (if t162 = true then (if (l0_1.length : Int) = 0 then (impl_FamilyTable.j0 k a1 true a0_0 l0_1) else (if 0 < (l0_1.length : Int) then (impl_FamilyTable.j0 k a1 (((rd_L1 l0_1 0).length : Int) == 0) a0_0 l0_1) else (none))) else (impl_FamilyTable.j0 k a1 true a0_0 l0_1))) else (some (0, ([] : List Int), ([] : List (S87)), 1))) = some (r1, r2, r3, r4) := H
 have A3 := Aside0.mk A30
 clear A30
 by_cases c4 : t161 = true
 rotate_left
 ·
  replace c4 := Bool.eq_false_iff.mpr c4
  subst c4
  rw [if_neg (show ¬ (false = true) by decide)] at H
  simp only [Option.some.injEq, Prod.mk.injEq] at H
  obtain ⟨rfl, rfl, rfl, rfl⟩ := H
  go_enter Try.func46, Try.ntmps46
  go_wp2_with (first | ((with_reducible refine gate_dst (N := 2) rfl ?_); (try (refine gate_guard (by rfl) ?_; dsimp only)); refine box_event ?hg (N := 2) ?hd (cs := #[.int .i64 a0_0, .slice A0_1 l0_1.length c0_1]) (t := 58) ?hr ?_; (case hd => rfl); (case hg => rfl); (case hr => first | (go_simp; done) | (go_simp; rfl)); intro gb158 hg w75 hbox hb; have n0_ := Aside0.mk (below_step HB.out hb); have n1_ := Aside0.mk (hbox); have n3_ := Aside0.mk ((by rw [hg]; exact (below_size HB.out) : w.heap.size ≤ gb158)); clear HB; have HB := n0_; have BK158 := n1_; have GE158 := n3_; clear n0_ n1_ n3_; clear hb hbox hg) | ((with_reducible refine gate_dst (N := 3) rfl ?_); (try (refine gate_guard (by rfl) ?_; dsimp only)); refine box_event ?hg (N := 3) ?hd (cs := #[.int .i64 a1]) (t := 2) ?hr ?_; (case hd => rfl); (case hg => rfl); (case hr => first | (go_simp; done) | (go_simp; rfl)); intro gb159 hg w76 hbox hb; have n0_ := Aside0.mk (blk_below BK158.out hb); have n1_ := Aside0.mk (below_step HB.out hb); have n2_ := Aside0.mk (hbox); have n4_ := Aside0.mk ((by rw [hg]; exact (below_size HB.out) : w.heap.size ≤ gb159)); have n5_ := Aside0.mk ((by rw [hg]; exact Nat.ne_of_lt (blk_lt BK158.out) : gb158 ≠ gb159)); have n6_ := Aside0.mk ((by rw [hg]; exact Nat.ne_of_gt (blk_lt BK158.out) : gb159 ≠ gb158)); clear BK158; clear HB; have BK158 := n0_; have HB := n1_; have BK159 := n2_; have GE159 := n4_; have NB158_159 := n5_; have NB159_158 := n6_; clear n0_ n1_ n2_ n4_ n5_ n6_; clear hb hbox hg) | ((with_reducible refine gate_dst (N := 4) rfl ?_); (try (refine gate_guard (by rfl) ?_; dsimp only)); refine box_event ?hg (N := 4) ?hd (cs := #[.int .i64 0, .slice none 0 0, .slice none 0 0]) (t := 27) ?hr ?_; (case hd => rfl); (case hg => rfl); (case hr => first | (go_simp; done) | (go_simp; rfl)); intro gb160 hg w77 hbox hb; have n0_ := Aside0.mk (blk_below BK158.out hb); have n1_ := Aside0.mk (blk_below BK159.out hb); have n2_ := Aside0.mk (below_step HB.out hb); have n3_ := Aside0.mk (hbox); have n5_ := Aside0.mk ((by rw [hg]; exact (below_size HB.out) : w.heap.size ≤ gb160)); have n6_ := Aside0.mk ((by rw [hg]; exact Nat.ne_of_lt (blk_lt BK158.out) : gb158 ≠ gb160)); have n7_ := Aside0.mk ((by rw [hg]; exact Nat.ne_of_gt (blk_lt BK158.out) : gb160 ≠ gb158)); have n8_ := Aside0.mk ((by rw [hg]; exact Nat.ne_of_lt (blk_lt BK159.out) : gb159 ≠ gb160)); have n9_ := Aside0.mk ((by rw [hg]; exact Nat.ne_of_gt (blk_lt BK159.out) : gb160 ≠ gb159)); clear BK158; clear BK159; clear HB; have BK158 := n0_; have BK159 := n1_; have HB := n2_; have BK160 := n3_; have GE160 := n5_; have NB158_160 := n6_; have NB160_158 := n7_; have NB159_160 := n8_; have NB160_159 := n9_; clear n0_ n1_ n2_ n3_ n5_ n6_ n7_ n8_ n9_; clear hb hbox hg; have hnb78 := NB158_159.out; have hnc78 := NB159_158.out; have hnb79 := NB158_160.out; have hnc79 := NB160_158.out; have hcz80_0 : w77.cell? ⟨gb158, 0, none⟩ = some (.int .i64 a0_0) := (blk_cell BK158.out 0).trans rfl; have hcz80_1 : w77.cell? ⟨gb158, 1, none⟩ = some (.slice A0_1 l0_1.length c0_1) := (blk_cell BK158.out 1).trans rfl; have hfz80_0 := blk_frozen BK158.out 0; have hfz80_1 := blk_frozen BK158.out 1) | ((with_reducible refine gate_callee (f := 115) rfl ?_); refine goesL_ (some 14) rfl rfl Try.func115 (by kernel_rfl) rfl #[.agg #[.int .i64 a0_0, .slice A0_1 l0_1.length c0_1]] rfl (by (try simp only [List.map_toArray, List.map_cons, List.map_nil]); first | done | rfl) ?_; (with_reducible refine (impl_ValidFamily.calls k a0_0 _ _ l0_1 false _ ?side1 ?side2 A3.out).mono ?_); (case side1 => exact Kd.C_below HR0_1.out HB.out); (case side2 => exact HC0_1.out); rintro e w81 ⟨rfl, hb⟩; refine ⟨_, rfl, ?_⟩; have n0_ := Aside0.mk (blk_below BK158.out hb); have n1_ := Aside0.mk (blk_below BK159.out hb); have n2_ := Aside0.mk (blk_below BK160.out hb); have n3_ := Aside0.mk (below_step HB.out hb); clear BK158; clear BK159; clear BK160; clear HB; have BK158 := n0_; have BK159 := n1_; have BK160 := n2_; have HB := n3_; clear n0_ n1_ n2_ n3_; (try clear hb); (try clear hb2); (try clear hk); (try clear hi); have hnb82 := NB160_159.out; have hnc82 := NB159_160.out; have hcz83_0 : w81.cell? ⟨gb160, 0, none⟩ = some (.int .i64 0) := (blk_cell BK160.out 0).trans rfl; have hcz83_1 : w81.cell? ⟨gb160, 1, none⟩ = some (.slice none 0 0) := (blk_cell BK160.out 1).trans rfl; have hcz83_2 : w81.cell? ⟨gb160, 2, none⟩ = some (.slice none 0 0) := (blk_cell BK160.out 2).trans rfl; have hfz83_0 := blk_frozen BK160.out 0; have hfz83_1 := blk_frozen BK160.out 1; have hfz83_2 := blk_frozen BK160.out 2))
  refine bodyPost_ret (results_ct rfl _ _ gb160 27 #[.int .i64 0, .slice none 0 0, .slice none 0 0] (0, 0) _ rfl (by (with_reducible repeat (first | refine blk_drewN ?_ _ | refine blk_drew ?_ | refine blk_alloc ?_ _)); refine blk_put (cs := #[.int .i64 0, .slice none 0 0, .slice none 0 0]) ?_ 2 _ rfl; (with_reducible repeat (first | refine blk_drewN ?_ _ | refine blk_drew ?_ | refine blk_alloc ?_ _)); refine blk_put (cs := #[.int .i64 0, .slice none 0 0, .slice none 0 0]) ?_ 1 _ rfl; (with_reducible repeat (first | refine blk_drewN ?_ _ | refine blk_drew ?_ | refine blk_alloc ?_ _)); refine blk_put (cs := #[.int .i64 0, .slice none 0 0, .slice none 0 0]) ?_ 0 _ rfl; (with_reducible repeat (first | refine blk_drewN ?_ _ | refine blk_drew ?_ | refine blk_alloc ?_ _)); exact BK160.out) Try.underlying27 rfl (by kernel_rfl)) rfl ?_
  exact ⟨_, _, rfl, by first | exact Kd.R_nil _ _ _ _ _ | exact Kd.S_nil _ _ _ _ _, by first | exact Kd.R_nil _ _ _ _ _ | exact Kd.S_nil _ _ _ _ _, by repeat (first | (with_reducible first | exact HB.out | apply below_alloc | apply pw_below_drewN | apply below_drew1 | refine below_set ?_ GE158.out | refine below_set ?_ GE159.out | refine below_set ?_ GE160.out) | exact HB.out)⟩
 subst c4
 rw [if_pos rfl] at H
 have HC5 := Aside0.mk H
 clear H
 go_enter Try.func46, Try.ntmps46
 go_upto_region 3 with (first | ((with_reducible refine gate_dst (N := 2) rfl ?_); (try (refine gate_guard (by rfl) ?_; dsimp only)); refine box_event ?hg (N := 2) ?hd (cs := #[.int .i64 a0_0, .slice A0_1 l0_1.length c0_1]) (t := 58) ?hr ?_; (case hd => rfl); (case hg => rfl); (case hr => first | (go_simp; done) | (go_simp; rfl)); intro gb158 hg w6 hbox hb; have n0_ := Aside0.mk (below_step HB.out hb); have n1_ := Aside0.mk (hbox); have n3_ := Aside0.mk ((by rw [hg]; exact (below_size HB.out) : w.heap.size ≤ gb158)); clear HB; have HB := n0_; have BK158 := n1_; have GE158 := n3_; clear n0_ n1_ n3_; clear hb hbox hg) | ((with_reducible refine gate_dst (N := 3) rfl ?_); (try (refine gate_guard (by rfl) ?_; dsimp only)); refine box_event ?hg (N := 3) ?hd (cs := #[.int .i64 a1]) (t := 2) ?hr ?_; (case hd => rfl); (case hg => rfl); (case hr => first | (go_simp; done) | (go_simp; rfl)); intro gb159 hg w7 hbox hb; have n0_ := Aside0.mk (blk_below BK158.out hb); have n1_ := Aside0.mk (below_step HB.out hb); have n2_ := Aside0.mk (hbox); have n4_ := Aside0.mk ((by rw [hg]; exact (below_size HB.out) : w.heap.size ≤ gb159)); have n5_ := Aside0.mk ((by rw [hg]; exact Nat.ne_of_lt (blk_lt BK158.out) : gb158 ≠ gb159)); have n6_ := Aside0.mk ((by rw [hg]; exact Nat.ne_of_gt (blk_lt BK158.out) : gb159 ≠ gb158)); clear BK158; clear HB; have BK158 := n0_; have HB := n1_; have BK159 := n2_; have GE159 := n4_; have NB158_159 := n5_; have NB159_158 := n6_; clear n0_ n1_ n2_ n4_ n5_ n6_; clear hb hbox hg) | ((with_reducible refine gate_dst (N := 4) rfl ?_); (try (refine gate_guard (by rfl) ?_; dsimp only)); refine box_event ?hg (N := 4) ?hd (cs := #[.int .i64 0, .slice none 0 0, .slice none 0 0]) (t := 27) ?hr ?_; (case hd => rfl); (case hg => rfl); (case hr => first | (go_simp; done) | (go_simp; rfl)); intro gb160 hg w8 hbox hb; have n0_ := Aside0.mk (blk_below BK158.out hb); have n1_ := Aside0.mk (blk_below BK159.out hb); have n2_ := Aside0.mk (below_step HB.out hb); have n3_ := Aside0.mk (hbox); have n5_ := Aside0.mk ((by rw [hg]; exact (below_size HB.out) : w.heap.size ≤ gb160)); have n6_ := Aside0.mk ((by rw [hg]; exact Nat.ne_of_lt (blk_lt BK158.out) : gb158 ≠ gb160)); have n7_ := Aside0.mk ((by rw [hg]; exact Nat.ne_of_gt (blk_lt BK158.out) : gb160 ≠ gb158)); have n8_ := Aside0.mk ((by rw [hg]; exact Nat.ne_of_lt (blk_lt BK159.out) : gb159 ≠ gb160)); have n9_ := Aside0.mk ((by rw [hg]; exact Nat.ne_of_gt (blk_lt BK159.out) : gb160 ≠ gb159)); clear BK158; clear BK159; clear HB; have BK158 := n0_; have BK159 := n1_; have HB := n2_; have BK160 := n3_; have GE160 := n5_; have NB158_160 := n6_; have NB160_158 := n7_; have NB159_160 := n8_; have NB160_159 := n9_; clear n0_ n1_ n2_ n3_ n5_ n6_ n7_ n8_ n9_; clear hb hbox hg; have hnb9 := NB158_159.out; have hnc9 := NB159_158.out; have hnb10 := NB158_160.out; have hnc10 := NB160_158.out; have hcz11_0 : w8.cell? ⟨gb158, 0, none⟩ = some (.int .i64 a0_0) := (blk_cell BK158.out 0).trans rfl; have hcz11_1 : w8.cell? ⟨gb158, 1, none⟩ = some (.slice A0_1 l0_1.length c0_1) := (blk_cell BK158.out 1).trans rfl; have hfz11_0 := blk_frozen BK158.out 0; have hfz11_1 := blk_frozen BK158.out 1) | ((with_reducible refine gate_callee (f := 115) rfl ?_); refine goesL_ (some 14) rfl rfl Try.func115 (by kernel_rfl) rfl #[.agg #[.int .i64 a0_0, .slice A0_1 l0_1.length c0_1]] rfl (by (try simp only [List.map_toArray, List.map_cons, List.map_nil]); first | done | rfl) ?_; (with_reducible refine (impl_ValidFamily.calls k a0_0 _ _ l0_1 true _ ?side1 ?side2 A3.out).mono ?_); (case side1 => exact Kd.C_below HR0_1.out HB.out); (case side2 => exact HC0_1.out); rintro e w12 ⟨rfl, hb⟩; refine ⟨_, rfl, ?_⟩; have n0_ := Aside0.mk (blk_below BK158.out hb); have n1_ := Aside0.mk (blk_below BK159.out hb); have n2_ := Aside0.mk (blk_below BK160.out hb); have n3_ := Aside0.mk (below_step HB.out hb); clear BK158; clear BK159; clear BK160; clear HB; have BK158 := n0_; have BK159 := n1_; have BK160 := n2_; have HB := n3_; clear n0_ n1_ n2_ n3_; (try clear hb); (try clear hb2); (try clear hk); (try clear hi)))
 (try simp only [Act.put, List.setIfInBounds_toArray, List.set_cons_zero, List.set_cons_succ])
 go_cut [33] (fun v33 wc => ∃ (kq : Nat) (x33_4 : Bool), v33 = .bool x33_4 ∧ Aside0 (impl_FamilyTable.j0 kq a1 x33_4 a0_0 l0_1 = some (r1, r2, r3, r4)) ∧ Aside0 (kq ≤ k) ∧ Aside0 (wc.heap[gb158]? = some (.cells #[.int .i64 a0_0, (.slice A0_1 l0_1.length c0_1)] 58 (0, 0))) ∧ Aside0 (wc.heap[gb159]? = some (.cells #[.int .i64 a1] 2 (0, 0))) ∧ Aside0 (wc.heap[gb160]? = some (.cells #[.int .i64 0, (.slice none 0 0), (.slice none 0 0)] 27 (0, 0))) ∧ Aside0 (Below w.heap.size w wc))
 case first =>
  have H := HC5.out
  clear HC5
  replace H := Option.bind_eq_some_iff.mp H
  obtain ⟨t162, A130, H⟩ := H
  replace H : (if t162 = true then (if (l0_1.length : Int) = 0 then (impl_FamilyTable.j0 k a1 true a0_0 l0_1) else (if 0 < (l0_1.length : Int) then (impl_FamilyTable.j0 k a1 (((rd_L1 l0_1 0).length : Int) == 0) a0_0 l0_1) else (none))) else (impl_FamilyTable.j0 k a1 true a0_0 l0_1)) = some (r1, r2, r3, r4) := H
  have A13 := Aside0.mk A130
  clear A130
  by_cases c14 : t162 = true
  rotate_left
  ·
   replace c14 := Bool.eq_false_iff.mpr c14
   subst c14
   rw [if_neg (show ¬ (false = true) by decide)] at H
   have H' := Aside0.mk H
   clear H
   have x159 := (blk_cell BK159.out 0).trans (show _ = some (Value.int .i64 a1) from rfl)
   go_wp2_with (first | ((with_reducible refine gate_callee (f := 102) rfl ?_); refine goesL_ (some 18) rfl rfl Try.func102 (by kernel_rfl) rfl #[.int .i64 a1, .int .i64 1, .int .i64 64] rfl (by (try simp only [List.map_toArray, List.map_cons, List.map_nil]); first | done | rfl) ?_; (with_reducible refine (impl_within.calls a1 1 64 false _ A13.out).mono ?_); rintro e w' ⟨rfl, ⟨nd, rfl⟩⟩; refine ⟨_, rfl, ?_⟩))
   go_meet
   case rel => exact ⟨_, (true), rfl, H', ⟨by first | omega | exact Nat.le_refl _⟩, ⟨by (with_reducible repeat (first | refine blk_drewN ?_ _ | refine blk_drew ?_ | refine blk_alloc ?_ _)); exact BK158.out⟩, ⟨by (with_reducible repeat (first | refine blk_drewN ?_ _ | refine blk_drew ?_ | refine blk_alloc ?_ _)); exact BK159.out⟩, ⟨by (with_reducible repeat (first | refine blk_drewN ?_ _ | refine blk_drew ?_ | refine blk_alloc ?_ _)); exact BK160.out⟩, ⟨by repeat (first | exact HB.out | apply below_alloc | apply pw_below_drewN | apply below_drew1 | refine below_set ?_ GE158.out | refine below_set ?_ GE159.out | refine below_set ?_ GE160.out)⟩⟩
  subst c14
  rw [if_pos rfl] at H
  by_cases c15 : (l0_1.length : Int) = 0
  ·
   rw [if_pos c15] at H
   have c15b0 : ((l0_1.length : Int) == 0) = true := beq_iff_eq.mpr c15
   have c15b1 : ((l0_1.length : Int) != 0) = false := bne_eq_false_iff_eq.mpr c15
   clear c15
   (first | rw [c15b0] | (simp only [i64_w, i32_w]; rw [c15b0]) | skip)
   have H' := Aside0.mk H
   clear H
   have x159 := (blk_cell BK159.out 0).trans (show _ = some (Value.int .i64 a1) from rfl)
   go_wp2_with (first | ((with_reducible refine gate_callee (f := 102) rfl ?_); refine goesL_ (some 18) rfl rfl Try.func102 (by kernel_rfl) rfl #[.int .i64 a1, .int .i64 1, .int .i64 64] rfl (by (try simp only [List.map_toArray, List.map_cons, List.map_nil]); first | done | rfl) ?_; (with_reducible refine (impl_within.calls a1 1 64 true _ A13.out).mono ?_); rintro e w' ⟨rfl, ⟨nd, rfl⟩⟩; refine ⟨_, rfl, ?_⟩; have hnb16 := NB158_159.out; have hnc16 := NB159_158.out; have hnb17 := NB158_160.out; have hnc17 := NB160_158.out; have hcz18_0 : w12.cell? ⟨gb158, 0, none⟩ = some (.int .i64 a0_0) := (blk_cell BK158.out 0).trans rfl; have hcz18_1 : w12.cell? ⟨gb158, 1, none⟩ = some (.slice A0_1 l0_1.length c0_1) := (blk_cell BK158.out 1).trans rfl; have hfz18_0 := blk_frozen BK158.out 0; have hfz18_1 := blk_frozen BK158.out 1))
   go_meet
   case rel => exact ⟨_, (true), rfl, H', ⟨by first | omega | exact Nat.le_refl _⟩, ⟨by (with_reducible repeat (first | refine blk_drewN ?_ _ | refine blk_drew ?_ | refine blk_alloc ?_ _)); exact BK158.out⟩, ⟨by (with_reducible repeat (first | refine blk_drewN ?_ _ | refine blk_drew ?_ | refine blk_alloc ?_ _)); exact BK159.out⟩, ⟨by (with_reducible repeat (first | refine blk_drewN ?_ _ | refine blk_drew ?_ | refine blk_alloc ?_ _)); exact BK160.out⟩, ⟨by repeat (first | exact HB.out | apply below_alloc | apply pw_below_drewN | apply below_drew1 | refine below_set ?_ GE158.out | refine below_set ?_ GE159.out | refine below_set ?_ GE160.out)⟩⟩
  rw [if_neg c15] at H
  have c15b0 : ((l0_1.length : Int) == 0) = false := beq_eq_false_iff_ne.mpr c15
  have c15b1 : ((l0_1.length : Int) != 0) = true := bne_iff_ne.mpr c15
  have c15b2 : ¬ (l0_1 = []) := fun h_ => c15 (by rw [h_]; rfl)
  (first | rw [c15b0] | (simp only [i64_w, i32_w]; rw [c15b0]) | skip)
  by_cases c19 : 0 < (l0_1.length : Int)
  rotate_left
  ·
   rw [if_neg c19] at H
   exact absurd H (by simp)
  rw [if_pos c19] at H
  have c19b0 : decide (0 < (l0_1.length : Int)) = true := decide_eq_true c19
  have c19b1 : decide (0 < l0_1.length) = true := decide_eq_true (by omega)
  clear c19
  have H' := Aside0.mk H
  clear H
  have x159 := (blk_cell BK159.out 0).trans (show _ = some (Value.int .i64 a1) from rfl)
  go_wp2_with (first | ((with_reducible refine gate_callee (f := 102) rfl ?_); refine goesL_ (some 18) rfl rfl Try.func102 (by kernel_rfl) rfl #[.int .i64 a1, .int .i64 1, .int .i64 64] rfl (by (try simp only [List.map_toArray, List.map_cons, List.map_nil]); first | done | rfl) ?_; (with_reducible refine (impl_within.calls a1 1 64 true _ A13.out).mono ?_); rintro e w' ⟨rfl, ⟨nd, rfl⟩⟩; refine ⟨_, rfl, ?_⟩; have hnb20 := NB158_159.out; have hnc20 := NB159_158.out; have hnb21 := NB158_160.out; have hnc21 := NB160_158.out; have hcz22_0 : w12.cell? ⟨gb158, 0, none⟩ = some (.int .i64 a0_0) := (blk_cell BK158.out 0).trans rfl; have hcz22_1 : w12.cell? ⟨gb158, 1, none⟩ = some (.slice A0_1 l0_1.length c0_1) := (blk_cell BK158.out 1).trans rfl; have hfz22_0 := blk_frozen BK158.out 0; have hfz22_1 := blk_frozen BK158.out 1; have p163 : 0 ≤ (0 : Int) := (by omega); have q163 : 0 < (l0_1.length : Int) := of_decide_eq_true (by first | (with_reducible assumption) | assumption); obtain ⟨ad163, A163_0, c163_0, e163, hx163_0, hl163_0, hi163_0⟩ := at_L1 HR0_1.out 0 p163 q163; cases e163; have qi163 : (0 < l0_1.length) = True := eq_true (by omega); (try rw [show ((0 : Int)).toNat = 0 from rfl] at hx163_0); (try rw [Addr.add_zero'] at hx163_0); replace hx163_0 := (HB.out.cell (World.block_lt_of_cell? w _ hx163_0)).trans hx163_0; have HR163_0 := Aside0.mk hi163_0; have HC163_0 := Aside0.mk hl163_0; clear hi163_0 hl163_0; replace p163 := eq_true p163; replace q163 := eq_true q163))
  go_meet
  case rel => exact ⟨_, ((((rd_L1 l0_1 0).length : Int) == 0)), rfl, H', ⟨by first | omega | exact Nat.le_refl _⟩, ⟨by (with_reducible repeat (first | refine blk_drewN ?_ _ | refine blk_drew ?_ | refine blk_alloc ?_ _)); exact BK158.out⟩, ⟨by (with_reducible repeat (first | refine blk_drewN ?_ _ | refine blk_drew ?_ | refine blk_alloc ?_ _)); exact BK159.out⟩, ⟨by (with_reducible repeat (first | refine blk_drewN ?_ _ | refine blk_drew ?_ | refine blk_alloc ?_ _)); exact BK160.out⟩, ⟨by repeat (first | exact HB.out | apply below_alloc | apply pw_below_drewN | apply below_drew1 | refine below_set ?_ GE158.out | refine below_set ?_ GE159.out | refine below_set ?_ GE160.out)⟩⟩
 clear HC5
 try clear c4
 try clear c14
 try clear c15
 try clear c15b0
 try clear c15b1
 try clear c15b2
 try clear c19
 try clear c19b0
 try clear c19b1
 try clear hcz11_0
 try clear hcz11_1
 try clear hcz18_0
 try clear hcz18_1
 try clear hcz22_0
 try clear hcz22_1
 try clear hfz11_0
 try clear hfz11_1
 try clear hfz18_0
 try clear hfz18_1
 try clear hfz22_0
 try clear hfz22_1
 try clear hx163_0
 try clear p163
 try clear q163
 obtain ⟨kq, x33_4, rfl, HA, HJ4, BK158, BK159, BK160, HB⟩ := hcut
 cases kq with
 | zero => exact absurd HA.out (by simp [impl_FamilyTable.j0])
 | succ kj4 =>
  have H := HA.out
  clear HA
  simp only [impl_FamilyTable.j0] at H
  by_cases c23 : x33_4 = true
  ·
   subst c23
   rw [if_pos rfl] at H
   simp only [Option.some.injEq, Prod.mk.injEq] at H
   obtain ⟨rfl, rfl, rfl, rfl⟩ := H
   have hnb24 := NB160_158.out
   have hnc24 := NB158_160.out
   have hnb25 := NB160_159.out
   have hnc25 := NB159_160.out
   have hcz26_0 : wc.cell? ⟨gb160, 0, none⟩ = some (.int .i64 0) := (blk_cell BK160.out 0).trans rfl
   have hcz26_1 : wc.cell? ⟨gb160, 1, none⟩ = some (.slice none 0 0) := (blk_cell BK160.out 1).trans rfl
   have hcz26_2 : wc.cell? ⟨gb160, 2, none⟩ = some (.slice none 0 0) := (blk_cell BK160.out 2).trans rfl
   have hfz26_0 := blk_frozen BK160.out 0
   have hfz26_1 := blk_frozen BK160.out 1
   have hfz26_2 := blk_frozen BK160.out 2
   go_wp2
   refine bodyPost_ret (results_ct rfl _ _ gb160 27 #[.int .i64 0, .slice none 0 0, .slice none 0 0] (0, 0) _ rfl (by (with_reducible repeat (first | refine blk_drewN ?_ _ | refine blk_drew ?_ | refine blk_alloc ?_ _)); refine blk_put (cs := #[.int .i64 0, .slice none 0 0, .slice none 0 0]) ?_ 2 _ rfl; (with_reducible repeat (first | refine blk_drewN ?_ _ | refine blk_drew ?_ | refine blk_alloc ?_ _)); refine blk_put (cs := #[.int .i64 0, .slice none 0 0, .slice none 0 0]) ?_ 1 _ rfl; (with_reducible repeat (first | refine blk_drewN ?_ _ | refine blk_drew ?_ | refine blk_alloc ?_ _)); refine blk_put (cs := #[.int .i64 0, .slice none 0 0, .slice none 0 0]) ?_ 0 _ rfl; (with_reducible repeat (first | refine blk_drewN ?_ _ | refine blk_drew ?_ | refine blk_alloc ?_ _)); exact BK160.out) Try.underlying27 rfl (by kernel_rfl)) rfl ?_
   exact ⟨_, _, rfl, by first | exact Kd.R_nil _ _ _ _ _ | exact Kd.S_nil _ _ _ _ _, by first | exact Kd.R_nil _ _ _ _ _ | exact Kd.S_nil _ _ _ _ _, by repeat (first | (with_reducible first | exact HB.out | apply below_alloc | apply pw_below_drewN | apply below_drew1 | refine below_set ?_ GE158.out | refine below_set ?_ GE159.out | refine below_set ?_ GE160.out) | exact HB.out)⟩
  replace c23 := Bool.eq_false_iff.mpr c23
  subst c23
  rw [if_neg (show ¬ (false = true) by decide)] at H
  obtain ⟨y164, hy164⟩ : ∃ y_ : List Int, y_ = (([1] : List Int)) := ⟨_, rfl⟩
  replace H : ((TRep.RepF y164 a0_0).bind fun t167 => (impl_FamilyTable.l0 kj4 a1 1 t167 l0_1 (l0_1.length : Int) 0 a0_0 l0_1)) = some (r1, r2, r3, r4) := by first | (rw [hy164]; with_reducible exact H) | (have H2_ := (Option.bind_some _ _).symm.trans H; rw [hy164]; with_reducible exact H2_) | (have H2_ := (Option.bind_some _ _).symm.trans H; with_reducible exact H2_) | with_reducible exact H | (rw [hy164]; exact H) | exact H
  have Ny164 := Aside0.mk hy164
  clear hy164
  replace H := Option.bind_eq_some_iff.mp H
  obtain ⟨t167, A270, H⟩ := H
  replace H : (impl_FamilyTable.l0 kj4 a1 1 t167 l0_1 (l0_1.length : Int) 0 a0_0 l0_1) = some (r1, r2, r3, r4) := H
  have A27 := Aside0.mk A270
  clear A270
  have H' := Aside0.mk H
  clear H
  go_wp2_with (first | ((with_reducible refine gate_dst (N := 35) rfl ?_); (try (refine gate_guard (by rfl) ?_; dsimp only)); refine Kd.R_lit (Kd.int .i64) _ 2 ?hg (N := 35) ?hd (xs := ([1] : List Int)) (inner := [.int .i64 1]) (ok := fun _ => True) (okp := fun _ => True) ?hr ?hp (fun _ hk => hk) trivial (Below.refl _ _) (Nat.le_refl _) (by simp) ?_; (case hd => rfl); (case hg => rfl); (case hr => first | (go_simp; done) | (go_simp; rfl)); (case hp => exact (Reps.one (show Kd.M (Kd.int .i64) _ _ _ 1 [.int .i64 1] from rfl) (Reps.none _ _))); intro v165 w28 ho29 hb hg_ hnew_; clear hg_ hnew_; (first | rw [← Ny164.out] at ho29 | (simp only [Int.reduceToNat] at ho29; rw [← Ny164.out] at ho29)); have n0_ := Aside0.mk (Kd.R_lower ho29 (below_size HB.out)); have n1_ := Aside0.mk (blk_below BK158.out hb); have n2_ := Aside0.mk (blk_below BK159.out hb); have n3_ := Aside0.mk (blk_below BK160.out hb); have n4_ := Aside0.mk (below_step HB.out hb); clear BK158; clear BK159; clear BK160; clear HB; have HO166 := n0_; have BK158 := n1_; have BK159 := n2_; have BK160 := n3_; have HB := n4_; clear n0_ n1_ n2_ n3_ n4_; clear hb ho29; have hnb30 := NB158_159.out; have hnc30 := NB159_158.out; have hnb31 := NB158_160.out; have hnc31 := NB160_158.out; have hcz32_0 : w28.cell? ⟨gb158, 0, none⟩ = some (.int .i64 a0_0) := (blk_cell BK158.out 0).trans rfl; have hcz32_1 : w28.cell? ⟨gb158, 1, none⟩ = some (.slice A0_1 l0_1.length c0_1) := (blk_cell BK158.out 1).trans rfl; have hfz32_0 := blk_frozen BK158.out 0; have hfz32_1 := blk_frozen BK158.out 1; obtain ⟨Ao33, co33, eo33⟩ := Kd.R_slice HO166.out; subst eo33) | ((with_reducible refine gate_callee (f := 108) rfl ?_); refine goesL_ (some 38) rfl rfl Try.func108 (by kernel_rfl) rfl #[.slice Ao33 y164.length co33, .int .i64 a0_0] rfl (by (try simp only [List.map_toArray, List.map_cons, List.map_nil]); first | done | rfl) ?_; (with_reducible refine (TRep.rep_calls _ _ y164 a0_0 t167 _ ?side1 ?side2 A27.out).mono ?_); (case side1 => repeat (first | exact (Kd.R_reads' HO166.out).2.2 | (with_reducible refine Kd.C_alloc ?_ _) | (with_reducible refine Kd.C_drewN ?_ _) | (with_reducible refine Kd.C_drew ?_))); (case side2 => exact (Kd.R_reads' HO166.out).2.1); rintro e w34 ⟨v168, rfl, ho0, hb⟩; refine ⟨_, rfl, ?_⟩; have NQ159 := Aside0.mk (show ∀ k_, (v168 : Value).ownBlock = some k_ → k_ ≠ gb159 from fun k_ hk_ => by have h1 := Kd.R_base ho0 k_ hk_; have h2 := blk_lt BK159.out; omega); have n0_ := Aside0.mk (Kd.R_elder' (by (with_reducible repeat (first | apply Kd.R_alloc | apply Kd.R_drewN | apply Kd.R_drew)); exact HO166.out) (Kd.R_base ho0) hb); have n1_ := Aside0.mk (Kd.R_lower (Kd.R_new' ho0 (Kd.R_lt (by (with_reducible repeat (first | apply Kd.R_alloc | apply Kd.R_drewN | apply Kd.R_drew)); exact HO166.out))) (below_size HB.out)); have n2_ := Aside0.mk (blk_below BK158.out hb); have n3_ := Aside0.mk (blk_below BK159.out hb); have n4_ := Aside0.mk (blk_below BK160.out hb); have n5_ := Aside0.mk (below_step HB.out hb); clear HO166; clear BK158; clear BK159; clear BK160; clear HB; have HO166 := n0_; have HO169 := n1_; have BK158 := n2_; have BK159 := n3_; have BK160 := n4_; have HB := n5_; clear n0_ n1_ n2_ n3_ n4_ n5_; (try clear hb); (try clear hb2); (try clear hk); (try clear hi); (try clear ho0); have hcz35_0 : w34.cell? ⟨gb158, 0, none⟩ = some (.int .i64 a0_0) := (blk_cell BK158.out 0).trans rfl; have hcz35_1 : w34.cell? ⟨gb158, 1, none⟩ = some (.slice A0_1 l0_1.length c0_1) := (blk_cell BK158.out 1).trans rfl; have hfz35_0 := blk_frozen BK158.out 0; have hfz35_1 := blk_frozen BK158.out 1))
  go_loopg [6, 42] kj4 (fun kq v6 v42 w' => ∃ (x6_2 : Int) (x7_2 : List Int) (x42_2 : Int), v6 = .int .i64 x6_2 ∧ v42 = .int .i64 x42_2 ∧ Aside0 (impl_FamilyTable.l0 kq a1 x6_2 x7_2 l0_1 (l0_1.length : Int) x42_2 a0_0 l0_1 = some (r1, r2, r3, r4)) ∧ Aside0 (kq ≤ kj4) ∧ Aside0 (Kd.R (Kd.int .i64) 2 w' w.heap.size (fun _ => True) v168 x7_2) ∧ Aside0 (w'.heap[gb158]? = some (.cells #[.int .i64 a0_0, (.slice A0_1 l0_1.length c0_1)] 58 (0, 0))) ∧ Aside0 (w'.heap[gb159]? = some (.cells #[.int .i64 a1] 2 (0, 0))) ∧ Aside0 (w'.heap[gb160]? = some (.cells #[.int .i64 0, (.slice none 0 0), (.slice none 0 0)] 27 (0, 0))) ∧ Aside0 (Below w.heap.size w w'))
  case atStart => exact ⟨(1), (t167), (0), rfl, rfl, H', ⟨Nat.le_refl _⟩, ⟨Kd.R_mono HO169.out (fun _ hk => trivial)⟩, ⟨BK158.out⟩, ⟨BK159.out⟩, ⟨BK160.out⟩, ⟨HB.out⟩⟩
  clear H'
  try clear c4
  try clear c14
  try clear c15
  try clear c15b0
  try clear c15b1
  try clear c15b2
  try clear c19
  try clear c19b0
  try clear c19b1
  try clear c23
  try clear hcz11_0
  try clear hcz11_1
  try clear hcz18_0
  try clear hcz18_1
  try clear hcz22_0
  try clear hcz22_1
  try clear hcz26_0
  try clear hcz26_1
  try clear hcz26_2
  try clear hcz32_0
  try clear hcz32_1
  try clear hcz35_0
  try clear hcz35_1
  try clear hfz11_0
  try clear hfz11_1
  try clear hfz18_0
  try clear hfz18_1
  try clear hfz22_0
  try clear hfz22_1
  try clear hfz26_0
  try clear hfz26_1
  try clear hfz26_2
  try clear hfz32_0
  try clear hfz32_1
  try clear hfz35_0
  try clear hfz35_1
  try clear hx163_0
  try clear p163
  try clear q163
  obtain ⟨x6_2, x7_2, x42_2, rfl, rfl, HA, HK2, HO_7, BK158, BK159, BK160, HB⟩ := hrel
  cases gk with
  | zero => exact absurd HA.out (by simp [impl_FamilyTable.l0])
  | succ k2 =>
   have H := HA.out
   clear HA
   simp only [impl_FamilyTable.l0] at H
   by_cases c36 : x42_2 < (l0_1.length : Int)
   rotate_left
   ·
    rw [if_neg c36] at H
    have c36b0 : decide (x42_2 < (l0_1.length : Int)) = false := decide_eq_false c36
    clear c36
    have HC49 := Aside0.mk H
    clear H
    go_upto_region 16 with (fail)
    go_cut [77] (fun v77 wc => ∃ (kq : Nat) (x77_48 : Bool), v77 = .bool x77_48 ∧ Aside0 (impl_FamilyTable.j3 kq a1 x6_2 x7_2 x77_48 a0_0 l0_1 = some (r1, r2, r3, r4)) ∧ Aside0 (kq ≤ k2) ∧ Aside0 (Kd.R (Kd.int .i64) 2 wc w.heap.size (fun _ => True) v168 x7_2) ∧ Aside0 (wc.heap[gb158]? = some (.cells #[.int .i64 a0_0, (.slice A0_1 l0_1.length c0_1)] 58 (0, 0))) ∧ Aside0 (wc.heap[gb159]? = some (.cells #[.int .i64 a1] 2 (0, 0))) ∧ Aside0 (wc.heap[gb160]? = some (.cells #[.int .i64 0, (.slice none 0 0), (.slice none 0 0)] 27 (0, 0))) ∧ Aside0 (Below w.heap.size w wc))
    case first =>
     have H := HC49.out
     clear HC49
     replace H := Option.bind_eq_some_iff.mp H
     obtain ⟨t174, A500, H⟩ := H
     replace H : (if t174 > 700 then (impl_FamilyTable.j3 k2 a1 x6_2 x7_2 true a0_0 l0_1) else ((TMax.MaxF x7_2).bind fun t175 => (impl_FamilyTable.j3 k2 a1 x6_2 x7_2 (decide (t175 > 64)) a0_0 l0_1))) = some (r1, r2, r3, r4) := H
     have A50 := Aside0.mk A500
     clear A500
     by_cases c51 : t174 > 700
     ·
      rw [if_pos c51] at H
      have c51b0 : decide (700 < t174) = true := decide_eq_true c51
      clear c51
      (first | rw [c51b0] | (simp only [i64_w, i32_w]; rw [c51b0]) | skip)
      have H' := Aside0.mk H
      clear H
      have x159 := (blk_cell BK159.out 0).trans (show _ = some (Value.int .i64 a1) from rfl)
      go_wp2_with (first | ((with_reducible refine gate_callee (f := 104) rfl ?_); refine goesL_ (some 71) rfl rfl Try.func104 (by kernel_rfl) rfl #[.int .i64 a1, .int .i64 x6_2, .int .i64 700] rfl (by (try simp only [List.map_toArray, List.map_cons, List.map_nil]); first | done | rfl) ?_; (with_reducible refine (impl_times.calls k2 a1 x6_2 700 t174 _ A50.out).mono ?_); rintro e w52 ⟨rfl, hb⟩; refine ⟨_, rfl, ?_⟩; have n0_ := Aside0.mk (Kd.R_below (by (with_reducible repeat (first | apply Kd.R_alloc | apply Kd.R_drewN | apply Kd.R_drew)); exact HO_7.out) hb); have n1_ := Aside0.mk (blk_below BK158.out hb); have n2_ := Aside0.mk (blk_below BK159.out hb); have n3_ := Aside0.mk (blk_below BK160.out hb); have n4_ := Aside0.mk (below_step HB.out hb); clear HO_7; clear BK158; clear BK159; clear BK160; clear HB; have HO_7 := n0_; have BK158 := n1_; have BK159 := n2_; have BK160 := n3_; have HB := n4_; clear n0_ n1_ n2_ n3_ n4_; (try clear hb); (try clear hb2); (try clear hk); (try clear hi)))
      go_meet
      case rel => exact ⟨_, (true), rfl, H', ⟨by have := HJ4.out; have := HK2.out; first | omega | exact Nat.le_refl _⟩, ⟨by (with_reducible repeat (first | apply Kd.R_alloc | apply Kd.R_drewN | apply Kd.R_drew)); exact HO_7.out⟩, ⟨by (with_reducible repeat (first | refine blk_drewN ?_ _ | refine blk_drew ?_ | refine blk_alloc ?_ _)); exact BK158.out⟩, ⟨by (with_reducible repeat (first | refine blk_drewN ?_ _ | refine blk_drew ?_ | refine blk_alloc ?_ _)); exact BK159.out⟩, ⟨by (with_reducible repeat (first | refine blk_drewN ?_ _ | refine blk_drew ?_ | refine blk_alloc ?_ _)); exact BK160.out⟩, ⟨HB.out⟩⟩
     rw [if_neg c51] at H
     have c51b0 : decide (700 < t174) = false := decide_eq_false c51
     clear c51
     (first | rw [c51b0] | (simp only [i64_w, i32_w]; rw [c51b0]) | skip)
     replace H := Option.bind_eq_some_iff.mp H
     obtain ⟨t175, A530, H⟩ := H
     replace H : (impl_FamilyTable.j3 k2 a1 x6_2 x7_2 (decide (t175 > 64)) a0_0 l0_1) = some (r1, r2, r3, r4) := H
     have A53 := Aside0.mk A530
     clear A530
     have H' := Aside0.mk H
     clear H
     have x159 := (blk_cell BK159.out 0).trans (show _ = some (Value.int .i64 a1) from rfl)
     go_wp2_with (first | ((with_reducible refine gate_callee (f := 104) rfl ?_); refine goesL_ (some 71) rfl rfl Try.func104 (by kernel_rfl) rfl #[.int .i64 a1, .int .i64 x6_2, .int .i64 700] rfl (by (try simp only [List.map_toArray, List.map_cons, List.map_nil]); first | done | rfl) ?_; (with_reducible refine (impl_times.calls k2 a1 x6_2 700 t174 _ A50.out).mono ?_); rintro e w54 ⟨rfl, hb⟩; refine ⟨_, rfl, ?_⟩; have n0_ := Aside0.mk (Kd.R_below (by (with_reducible repeat (first | apply Kd.R_alloc | apply Kd.R_drewN | apply Kd.R_drew)); exact HO_7.out) hb); have n1_ := Aside0.mk (blk_below BK158.out hb); have n2_ := Aside0.mk (blk_below BK159.out hb); have n3_ := Aside0.mk (blk_below BK160.out hb); have n4_ := Aside0.mk (below_step HB.out hb); clear HO_7; clear BK158; clear BK159; clear BK160; clear HB; have HO_7 := n0_; have BK158 := n1_; have BK159 := n2_; have BK160 := n3_; have HB := n4_; clear n0_ n1_ n2_ n3_ n4_; (try clear hb); (try clear hb2); (try clear hk); (try clear hi); obtain ⟨Ao55, co55, eo55⟩ := Kd.R_slice HO_7.out; subst eo55) | (go_at_call 116; (with_reducible refine (TMax.max_calls _ _ x7_2 t175 _ ?side1 ?side2 A53.out).mono ?_); (case side1 => repeat (first | exact (Kd.R_reads' HO_7.out).2.2 | (with_reducible refine Kd.C_alloc ?_ _) | (with_reducible refine Kd.C_drewN ?_ _) | (with_reducible refine Kd.C_drew ?_))); (case side2 => exact (Kd.R_reads' HO_7.out).2.1); rintro e w' ⟨rfl, ⟨nd, rfl⟩⟩))
     go_meet
     case rel => exact ⟨_, (decide (t175 > 64)), rfl, H', ⟨by have := HJ4.out; have := HK2.out; first | omega | exact Nat.le_refl _⟩, ⟨by (with_reducible repeat (first | apply Kd.R_alloc | apply Kd.R_drewN | apply Kd.R_drew)); exact HO_7.out⟩, ⟨by (with_reducible repeat (first | refine blk_drewN ?_ _ | refine blk_drew ?_ | refine blk_alloc ?_ _)); exact BK158.out⟩, ⟨by (with_reducible repeat (first | refine blk_drewN ?_ _ | refine blk_drew ?_ | refine blk_alloc ?_ _)); exact BK159.out⟩, ⟨by (with_reducible repeat (first | refine blk_drewN ?_ _ | refine blk_drew ?_ | refine blk_alloc ?_ _)); exact BK160.out⟩, ⟨by repeat (first | (with_reducible first | exact HB.out | apply below_alloc | apply pw_below_drewN | apply below_drew1 | refine below_set ?_ GE158.out | refine below_set ?_ GE159.out | refine below_set ?_ GE160.out) | exact HB.out)⟩⟩
    clear HC49
    try clear c4
    try clear c14
    try clear c15
    try clear c15b0
    try clear c15b1
    try clear c15b2
    try clear c19
    try clear c19b0
    try clear c19b1
    try clear c23
    try clear c36
    try clear c36b0
    try clear c37
    try clear c37b0
    try clear c38
    try clear c38b0
    try clear c39
    try clear c39b0
    try clear c40
    try clear c40b0
    try clear c41
    try clear c41b0
    try clear c42
    try clear c42b0
    try clear c43
    try clear c43b0
    try clear p45
    try clear q45
    try clear c51
    try clear c51b0
    try clear hcz11_0
    try clear hcz11_1
    try clear hcz18_0
    try clear hcz18_1
    try clear hcz22_0
    try clear hcz22_1
    try clear hcz26_0
    try clear hcz26_1
    try clear hcz26_2
    try clear hcz32_0
    try clear hcz32_1
    try clear hcz35_0
    try clear hcz35_1
    try clear hfz11_0
    try clear hfz11_1
    try clear hfz18_0
    try clear hfz18_1
    try clear hfz22_0
    try clear hfz22_1
    try clear hfz26_0
    try clear hfz26_1
    try clear hfz26_2
    try clear hfz32_0
    try clear hfz32_1
    try clear hfz35_0
    try clear hfz35_1
    try clear hx163_0
    try clear hx170_0
    try clear hx171_0
    try clear hx172_0
    try clear hx45_0
    try clear p163
    try clear p170
    try clear p171
    try clear p172
    try clear p45
    try clear q163
    try clear q170
    try clear q171
    try clear q172
    try clear q45
    obtain ⟨kq, x77_48, rfl, HA, HJ48, HO_7, BK158, BK159, BK160, HB⟩ := hcut
    cases kq with
    | zero => exact absurd HA.out (by simp [impl_FamilyTable.j3])
    | succ kj48 =>
     have H := HA.out
     clear HA
     simp only [impl_FamilyTable.j3] at H
     by_cases c56 : x77_48 = true
     ·
      subst c56
      rw [if_pos rfl] at H
      simp only [Option.some.injEq, Prod.mk.injEq] at H
      obtain ⟨rfl, rfl, rfl, rfl⟩ := H
      have hnb57 := NB160_158.out
      have hnc57 := NB158_160.out
      have hnb58 := NB160_159.out
      have hnc58 := NB159_160.out
      have hcz59_0 : wc.cell? ⟨gb160, 0, none⟩ = some (.int .i64 0) := (blk_cell BK160.out 0).trans rfl
      have hcz59_1 : wc.cell? ⟨gb160, 1, none⟩ = some (.slice none 0 0) := (blk_cell BK160.out 1).trans rfl
      have hcz59_2 : wc.cell? ⟨gb160, 2, none⟩ = some (.slice none 0 0) := (blk_cell BK160.out 2).trans rfl
      have hfz59_0 := blk_frozen BK160.out 0
      have hfz59_1 := blk_frozen BK160.out 1
      have hfz59_2 := blk_frozen BK160.out 2
      go_wp2
      refine bodyPost_ret (results_ct rfl _ _ gb160 27 #[.int .i64 0, .slice none 0 0, .slice none 0 0] (0, 0) _ rfl (by (with_reducible repeat (first | refine blk_drewN ?_ _ | refine blk_drew ?_ | refine blk_alloc ?_ _)); refine blk_put (cs := #[.int .i64 0, .slice none 0 0, .slice none 0 0]) ?_ 2 _ rfl; (with_reducible repeat (first | refine blk_drewN ?_ _ | refine blk_drew ?_ | refine blk_alloc ?_ _)); refine blk_put (cs := #[.int .i64 0, .slice none 0 0, .slice none 0 0]) ?_ 1 _ rfl; (with_reducible repeat (first | refine blk_drewN ?_ _ | refine blk_drew ?_ | refine blk_alloc ?_ _)); refine blk_put (cs := #[.int .i64 0, .slice none 0 0, .slice none 0 0]) ?_ 0 _ rfl; (with_reducible repeat (first | refine blk_drewN ?_ _ | refine blk_drew ?_ | refine blk_alloc ?_ _)); exact BK160.out) Try.underlying27 rfl (by kernel_rfl)) rfl ?_
      exact ⟨_, _, rfl, by first | exact Kd.R_nil _ _ _ _ _ | exact Kd.S_nil _ _ _ _ _, by first | exact Kd.R_nil _ _ _ _ _ | exact Kd.S_nil _ _ _ _ _, by repeat (first | (with_reducible first | exact HB.out | apply below_alloc | apply pw_below_drewN | apply below_drew1 | refine below_set ?_ GE158.out | refine below_set ?_ GE159.out | refine below_set ?_ GE160.out) | exact HB.out)⟩
     replace c56 := Bool.eq_false_iff.mpr c56
     subst c56
     rw [if_neg (show ¬ (false = true) by decide)] at H
     obtain ⟨y176, hy176⟩ : ∃ y_ : List (S87), y_ = (([] : List (S87))) := ⟨_, rfl⟩
     replace H : ((rowsF x6_2 a1 a0_0 l0_1).bind fun t179 => ((impl_tableOrLimit.f kj48 a1 x7_2 t179).bind fun bt182 => (some (bt182.1, bt182.2.1, bt182.2.2.1, bt182.2.2.2)))) = some (r1, r2, r3, r4) := by first | (rw [hy176]; with_reducible exact H) | (have H2_ := (Option.bind_some _ _).symm.trans H; rw [hy176]; with_reducible exact H2_) | (have H2_ := (Option.bind_some _ _).symm.trans H; with_reducible exact H2_) | with_reducible exact H | (rw [hy176]; exact H) | exact H
     have Ny176 := Aside0.mk hy176
     clear hy176
     replace H := Option.bind_eq_some_iff.mp H
     obtain ⟨t179, A600, H⟩ := H
     replace H : ((impl_tableOrLimit.f kj48 a1 x7_2 t179).bind fun bt182 => (some (bt182.1, bt182.2.1, bt182.2.2.1, bt182.2.2.2))) = some (r1, r2, r3, r4) := H
     have A60 := Aside0.mk A600
     clear A600
     replace H := Option.bind_eq_some_iff.mp H
     obtain ⟨⟨t182, t183, t186, t189⟩, A610, H⟩ := H
     replace H : (some (t182, t183, t186, t189)) = some (r1, r2, r3, r4) := H
     have A61 := Aside0.mk A610
     clear A610
     simp only [Option.some.injEq, Prod.mk.injEq] at H
     obtain ⟨rfl, rfl, rfl, rfl⟩ := H
     go_wp2_with (first | ((with_reducible refine gate_dst (N := 79) rfl ?_); (try (refine gate_guard (by rfl) ?_; dsimp only)); refine Kd.S_lit k87 _ 87 ?hg (N := 79) ?hd (xs := ([] : List (S87))) (inner := []) (ok := fun _ => True) (okp := fun _ => True) ?hr ?hp (fun _ hk => hk) trivial (Below.refl _ _) (Nat.le_refl _) (by simp) ?_; (case hd => rfl); (case hg => rfl); (case hr => first | (go_simp; done) | (go_simp; rfl)); (case hp => exact (Reps.none _ _)); intro v177 w62 ho63 hb hg_ hnew_; clear hg_ hnew_; (first | rw [← Ny176.out] at ho63 | (simp only [Int.reduceToNat] at ho63; rw [← Ny176.out] at ho63)); have n0_ := Aside0.mk (Kd.R_below (by (with_reducible repeat (first | apply Kd.R_alloc | apply Kd.R_drewN | apply Kd.R_drew)); exact HO_7.out) hb); have n1_ := Aside0.mk (Kd.S_lower (Kd.S_new' ho63 (Kd.R_lt (by (with_reducible repeat (first | apply Kd.R_alloc | apply Kd.R_drewN | apply Kd.R_drew)); exact HO_7.out))) (below_size HB.out)); have n2_ := Aside0.mk (blk_below BK158.out hb); have n3_ := Aside0.mk (blk_below BK159.out hb); have n4_ := Aside0.mk (blk_below BK160.out hb); have n5_ := Aside0.mk (below_step HB.out hb); clear HO_7; clear BK158; clear BK159; clear BK160; clear HB; have HO_7 := n0_; have HO178 := n1_; have BK158 := n2_; have BK159 := n3_; have BK160 := n4_; have HB := n5_; clear n0_ n1_ n2_ n3_ n4_ n5_; clear hb ho63; (obtain ⟨nS, AS, cS, eS⟩ : ∃ (n_ : Nat) (A_ : Option Addr) (c_ : Nat), v177 = .slice A_ n_ c_ := by obtain ⟨A_, c_, e_⟩ := Kd.S_slice HO178.out; exact ⟨_, A_, c_, e_⟩); subst eS) | ((with_reducible refine gate_dst (N := 12) rfl ?_); refine box_event ?hg (N := 12) ?hd (cs := #[.slice none 0 0]) (t := 25) ?hr ?_; (case hd => rfl); (case hg => rfl); (case hr => first | (go_simp; done) | (go_simp; rfl)); intro gr hg w81 hbox hb; have GE12 := Aside0.mk ((by rw [hg]; exact below_size HB.out) : w.heap.size ≤ gr); have NE12 := Aside0.mk ((by rw [hg]; exact ⟨Nat.ne_of_lt (blk_lt BK158.out), Nat.ne_of_lt (blk_lt BK159.out), Nat.ne_of_lt (blk_lt BK160.out)⟩) : gb158 ≠ gr ∧ gb159 ≠ gr ∧ gb160 ≠ gr); have ns_ := Aside0.mk (Kd.S_below HO178.out hb); clear HO178; have HS := ns_; clear ns_; have NS7 := Aside0.mk (show some gr ≠ (v168 : Value).ownBlock from fun e_ => by have := Kd.R_lt HO_7.out gr e_.symm; omega); clear hg; have n7_ := Aside0.mk (Kd.R_below HO_7.out hb); have n158_ := Aside0.mk (blk_below BK158.out hb); have n159_ := Aside0.mk (blk_below BK159.out hb); have n160_ := Aside0.mk (blk_below BK160.out hb); have nh_ := Aside0.mk (below_step HB.out hb); clear HO_7 BK158 BK159 BK160 HB; have HO_7 := n7_; have BK158 := n158_; have BK159 := n159_; have BK160 := n160_; have HB := nh_; clear n7_ n158_ n159_ n160_ nh_; have K12 := Aside0.mk hbox; clear hbox hb; have y0 : w81.cell? ⟨gr, 0, none⟩ = some (.slice none 0 0) := (blk_cell K12.out 0).trans rfl; have y1 := blk_frozen K12.out 0) | ((with_reducible refine gate_store (t := 25) (p := 12) rfl ?_); refine store_event (t := 25) (p := 12) (v := ?vo_) (w1 := (w81.setCell ⟨gr, 0, none⟩ (.slice AS nS cS))) ?hg ?ho ?hn ?hr ?_; (case ho => rfl); (case hg => rfl); (case hn => rfl); (case hr => first | (go_simp; done) | (go_simp; rfl)); intro w82 hw; clear y0 y1; have n0_ : Aside0 (w82.heap[gb158]? = some (.cells #[.int .i64 a0_0, .slice A0_1 l0_1.length c0_1] 58 (0, 0))) := ⟨by rw [hw]; exact blk_far BK158.out NE12.out.1 _⟩; have n1_ : Aside0 (w82.heap[gb159]? = some (.cells #[.int .i64 a1] 2 (0, 0))) := ⟨by rw [hw]; exact blk_far BK159.out NE12.out.2.1 _⟩; have n2_ : Aside0 (w82.heap[gb160]? = some (.cells #[.int .i64 0, .slice none 0 0, .slice none 0 0] 27 (0, 0))) := ⟨by rw [hw]; exact blk_far BK160.out NE12.out.2.2 _⟩; have n3_ : Aside0 (w82.heap[gr]? = some (.cells #[.slice AS nS cS] 25 (0, 0))) := ⟨by rw [hw]; exact blk_put (cs := #[.slice none 0 0]) K12.out 0 _ rfl⟩; have n4_ : Aside0 (Kd.S k87 87 w82 w.heap.size (fun _ => True) (.slice AS nS cS) ([] : List S87)) := ⟨by rw [hw]; have h_ := Kd.S_mono (ok' := fun _ => True) (Kd.S_set HS.out K12.out (by decide) 0 (.slice AS nS cS)) (fun _ _ => trivial); rwa [Ny176.out] at h_⟩; have n5_ : Aside0 (Below w.heap.size w w82) := ⟨by rw [hw]; exact below_set HB.out GE12.out⟩; have n6_ : Aside0 (Kd.R (Kd.int .i64) 2 w82 w.heap.size (fun _ => True) v168 x7_2) := ⟨by rw [hw]; exact Kd.R_mono (Kd.R_set HO_7.out K12.out (by decide) 0 _) (fun _ _ => trivial)⟩; clear hw BK158 BK159 BK160 K12 HS HB HO_7; have BK158 := n0_; have BK159 := n1_; have BK160 := n2_; have K12 := n3_; have HS := n4_; have HB := n5_; have HO_7 := n6_; clear n0_ n1_ n2_ n3_ n4_ n5_ n6_; have y2 : w82.cell? ⟨gb159, 0, none⟩ = some (.int .i64 a1) := (blk_cell BK159.out 0).trans rfl) | (go_at_call 105; (with_reducible refine (fam_rows_calls x6_2 a1 a0_0 A0_1 c0_1 l0_1 t179 A60.out w w82 gb158 gb159 gr [(gb158, #[Value.int .i64 a0_0, Value.slice A0_1 l0_1.length c0_1], 58), (gb159, #[Value.int .i64 a1], 2), (gb160, #[Value.int .i64 0, Value.slice none 0 0, Value.slice none 0 0], 27)] v168 x7_2 HR0_1.out HC0_1.out HB.out GE12.out (RowsIn.intro K12.out HS.out) (Beside.three BK158.out BK159.out BK160.out) (by simp) (by simp) (three_all (Q := fun k : Nat × Array Value × Nat => k.1 ≠ gr ∧ k.2.2 ≠ 87) ⟨NE12.out.1, show (58 : Nat) ≠ 87 by decide⟩ ⟨NE12.out.2.1, show (2 : Nat) ≠ 87 by decide⟩ ⟨NE12.out.2.2, show (27 : Nat) ≠ 87 by decide⟩) HO_7.out NS7.out).mono ?_); rintro e w83 ⟨rfl, ⟨v83, hr1_, hr2_⟩, hks_, hb_, h7_⟩; obtain ⟨A83, c83, rfl⟩ := Kd.S_slice hr2_; clear y2 K12 HS HB HO_7 BK158 BK159 BK160; have BK158 := Aside0.mk (hks_ (gb158, #[Value.int .i64 a0_0, Value.slice A0_1 l0_1.length c0_1], 58) (by simp)); have BK159 := Aside0.mk (hks_ (gb159, #[Value.int .i64 a1], 2) (by simp)); have BK160 := Aside0.mk (hks_ (gb160, #[Value.int .i64 0, Value.slice none 0 0, Value.slice none 0 0], 27) (by simp)); have K12 := Aside0.mk hr1_; have HS := Aside0.mk hr2_; have HB := Aside0.mk hb_; have HO_7 := Aside0.mk h7_; clear hr1_ hr2_ hks_ hb_ h7_; obtain ⟨Ao68, co68, eo68⟩ := Kd.R_slice HO_7.out; subst eo68; have y3 : w83.cell? ⟨gb159, 0, none⟩ = some (.int .i64 a1) := (blk_cell BK159.out 0).trans rfl; have y4 : w83.cell? ⟨gr, 0, none⟩ = some (.slice A83 t179.length c83) := (blk_cell K12.out 0).trans rfl) | (go_at_call 93; (refine (impl_tableOrLimit.calls kj48 a1 _ _ x7_2 _ _ t179 t182 t183 t186 t189 _ ?s1 ?s2 ?s3 ?s4 A61.out).mono ?_); (case s1 => exact (Kd.R_reads' HO_7.out).2.2); (case s2 => exact (Kd.R_reads' HO_7.out).2.1); (case s3 => exact (Kd.S_reads' HS.out).2.2); (case s4 => exact (Kd.S_reads' HS.out).2.1); rintro e w84 ⟨v184, v187, rfl, ho0, ho1, hb⟩; obtain ⟨Ao73, co73, rfl⟩ := Kd.R_slice ho0; obtain ⟨Ao74, co74, rfl⟩ := Kd.S_slice ho1; have HR9 := Aside0.mk (Kd.R_lower ho0 HB.out.size); have HS9 := Aside0.mk (Kd.S_lower ho1 HB.out.size); have HB9 := Aside0.mk (below_then HB.out HB.out.size hb); have BZ := Aside0.mk (blk_below BK160.out hb); clear ho0 ho1 hb y3 y4; have z0 : w84.cell? ⟨gb160, 0, none⟩ = some (.int .i64 0) := (blk_cell BZ.out 0).trans rfl; have z1 : w84.cell? ⟨gb160, 1, none⟩ = some (.slice none 0 0) := (blk_cell BZ.out 1).trans rfl; have z2 : w84.cell? ⟨gb160, 2, none⟩ = some (.slice none 0 0) := (blk_cell BZ.out 2).trans rfl; have f0 := blk_frozen BZ.out 0; have f1 := blk_frozen BZ.out 1; have f2 := blk_frozen BZ.out 2))
     refine bodyPost_ret (results_ct rfl _ _ gb160 27 #[.int .i64 t182, .slice Ao73 t183.length co73, .slice Ao74 t186.length co74] (0, 0) _ rfl (put3_blk (W := w84) BZ.out) Try.underlying27 rfl (by kernel_rfl)) rfl ?_
     exact ⟨_, _, rfl, put3_R BZ.out HR9.out, put3_S BZ.out HS9.out, put3_below HB9.out GE160.out⟩
   rw [if_pos c36] at H
   have c36b0 : decide (x42_2 < (l0_1.length : Int)) = true := decide_eq_true c36
   clear c36
   by_cases c37 : 0 ≤ x42_2
   rotate_left
   ·
    rw [if_neg c37] at H
    exact absurd H (by simp)
   rw [if_pos c37] at H
   have c37b0 : decide (0 ≤ x42_2) = true := decide_eq_true c37
   clear c37
   by_cases c38 : x42_2 < (l0_1.length : Int)
   rotate_left
   ·
    rw [if_neg c38] at H
    exact absurd H (by simp)
   rw [if_pos c38] at H
   have c38b0 : decide (x42_2 < (l0_1.length : Int)) = true := decide_eq_true c38
   clear c38
   have H' := Aside0.mk H
   clear H
   have p170 : 0 ≤ (x42_2 : Int) := of_decide_eq_true (by first | (with_reducible assumption) | assumption)
   have q170 : x42_2 < (l0_1.length : Int) := of_decide_eq_true (by first | (with_reducible assumption) | assumption)
   obtain ⟨ad170, A170_0, c170_0, e170, hx170_0, hl170_0, hi170_0⟩ := at_L1 HR0_1.out x42_2 p170 q170
   cases e170
   replace hx170_0 := (HB.out.cell (World.block_lt_of_cell? w _ hx170_0)).trans hx170_0
   have HR170_0 := Aside0.mk hi170_0
   have HC170_0 := Aside0.mk hl170_0
   clear hi170_0 hl170_0
   replace p170 := eq_true p170
   replace q170 := eq_true q170
   go_wp2
   go_loopg [53] k2 (fun kq v53 w' => ∃ (x7_3 : List Int) (x53_3 : Int), v53 = .int .i64 x53_3 ∧ Aside0 (impl_FamilyTable.l1 kq a1 (wrap64 (x6_2 + (wrap64 (((rd_L1 l0_1 x42_2).length : Int) - 1)))) x7_3 l0_1 (l0_1.length : Int) x42_2 (rd_L1 l0_1 x42_2) ((rd_L1 l0_1 x42_2).length : Int) x53_3 a0_0 l0_1 = some (r1, r2, r3, r4)) ∧ Aside0 (kq ≤ k2) ∧ Aside0 (Kd.R (Kd.int .i64) 2 w' w.heap.size (fun _ => True) v168 x7_3) ∧ Aside0 (w'.heap[gb158]? = some (.cells #[.int .i64 a0_0, (.slice (some ad170) l0_1.length c0_1)] 58 (0, 0))) ∧ Aside0 (w'.heap[gb159]? = some (.cells #[.int .i64 a1] 2 (0, 0))) ∧ Aside0 (w'.heap[gb160]? = some (.cells #[.int .i64 0, (.slice none 0 0), (.slice none 0 0)] 27 (0, 0))) ∧ Aside0 (Below w.heap.size w w'))
   case atStart => exact ⟨(x7_2), (0), rfl, H', ⟨Nat.le_refl _⟩, ⟨HO_7.out⟩, ⟨BK158.out⟩, ⟨BK159.out⟩, ⟨BK160.out⟩, ⟨HB.out⟩⟩
   clear H'
   try clear c4
   try clear c14
   try clear c15
   try clear c15b0
   try clear c15b1
   try clear c15b2
   try clear c19
   try clear c19b0
   try clear c19b1
   try clear c23
   try clear c36
   try clear c36b0
   try clear c37
   try clear c37b0
   try clear c38
   try clear c38b0
   try clear hcz11_0
   try clear hcz11_1
   try clear hcz18_0
   try clear hcz18_1
   try clear hcz22_0
   try clear hcz22_1
   try clear hcz26_0
   try clear hcz26_1
   try clear hcz26_2
   try clear hcz32_0
   try clear hcz32_1
   try clear hcz35_0
   try clear hcz35_1
   try clear hfz11_0
   try clear hfz11_1
   try clear hfz18_0
   try clear hfz18_1
   try clear hfz22_0
   try clear hfz22_1
   try clear hfz26_0
   try clear hfz26_1
   try clear hfz26_2
   try clear hfz32_0
   try clear hfz32_1
   try clear hfz35_0
   try clear hfz35_1
   try clear hx163_0
   try clear hx170_0
   try clear p163
   try clear p170
   try clear q163
   try clear q170
   obtain ⟨x7_3, x53_3, rfl, HA, HK3, HO_7, BK158, BK159, BK160, HB⟩ := hrel
   cases gk with
   | zero => exact absurd HA.out (by simp [impl_FamilyTable.l1])
   | succ k3 =>
    have H := HA.out
    clear HA
    simp only [impl_FamilyTable.l1] at H
    by_cases c39 : x53_3 < ((rd_L1 l0_1 x42_2).length : Int)
    rotate_left
    ·
     rw [if_neg c39] at H
     have c39b0 : decide (x53_3 < ((rd_L1 l0_1 x42_2).length : Int)) = false := decide_eq_false c39
     clear c39
     have H' := Aside0.mk H
     clear H
     go_wp2
     go_roundg k3
     case measure => have := HJ4.out; have := HK2.out; have := HK3.out; omega
     case rel => exact ⟨((wrap64 (x6_2 + (wrap64 (((rd_L1 l0_1 x42_2).length : Int) - 1))))), (x7_3), (wrap64 (x42_2 + 1)), rfl, rfl, H', ⟨by have := HJ4.out; have := HK2.out; have := HK3.out; omega⟩, ⟨by (with_reducible repeat (first | apply Kd.R_alloc | apply Kd.R_drewN | apply Kd.R_drew)); exact HO_7.out⟩, ⟨by (with_reducible repeat (first | refine blk_drewN ?_ _ | refine blk_drew ?_ | refine blk_alloc ?_ _)); exact BK158.out⟩, ⟨by (with_reducible repeat (first | refine blk_drewN ?_ _ | refine blk_drew ?_ | refine blk_alloc ?_ _)); exact BK159.out⟩, ⟨by (with_reducible repeat (first | refine blk_drewN ?_ _ | refine blk_drew ?_ | refine blk_alloc ?_ _)); exact BK160.out⟩, ⟨by repeat (first | exact HB.out | apply below_alloc | apply pw_below_drewN | apply below_drew1 | refine below_set ?_ GE158.out | refine below_set ?_ GE159.out | refine below_set ?_ GE160.out)⟩⟩
    rw [if_pos c39] at H
    have c39b0 : decide (x53_3 < ((rd_L1 l0_1 x42_2).length : Int)) = true := decide_eq_true c39
    clear c39
    by_cases c40 : 0 ≤ x53_3
    rotate_left
    ·
     rw [if_neg c40] at H
     exact absurd H (by simp)
    rw [if_pos c40] at H
    have c40b0 : decide (0 ≤ x53_3) = true := decide_eq_true c40
    clear c40
    by_cases c41 : x53_3 < ((rd_L1 l0_1 x42_2).length : Int)
    rotate_left
    ·
     rw [if_neg c41] at H
     exact absurd H (by simp)
    rw [if_pos c41] at H
    have c41b0 : decide (x53_3 < ((rd_L1 l0_1 x42_2).length : Int)) = true := decide_eq_true c41
    clear c41
    by_cases c42 : 0 ≤ (rd (rd_L1 l0_1 x42_2) x53_3)
    rotate_left
    ·
     rw [if_neg c42] at H
     exact absurd H (by simp)
    rw [if_pos c42] at H
    have c42b0 : decide (0 ≤ (rd (rd_L1 l0_1 x42_2) x53_3)) = true := decide_eq_true c42
    clear c42
    by_cases c43 : (rd (rd_L1 l0_1 x42_2) x53_3) < (x7_3.length : Int)
    rotate_left
    ·
     rw [if_neg c43] at H
     exact absurd H (by simp)
    rw [if_pos c43] at H
    have c43b0 : decide ((rd (rd_L1 l0_1 x42_2) x53_3) < (x7_3.length : Int)) = true := decide_eq_true c43
    clear c43
    obtain ⟨ji44, hji44⟩ : ∃ j_ : Int, (mn 65 (wrap64 ((rd x7_3 (rd (rd_L1 l0_1 x42_2) x53_3)) * a1))) = j_ := ⟨_, rfl⟩
    replace H : (impl_FamilyTable.l1 k3 a1 (wrap64 (x6_2 + (wrap64 (((rd_L1 l0_1 x42_2).length : Int) - 1)))) (x7_3.set ((rd (rd_L1 l0_1 x42_2) x53_3) : Int).toNat (ji44)) l0_1 (l0_1.length : Int) x42_2 (rd_L1 l0_1 x42_2) ((rd_L1 l0_1 x42_2).length : Int) (wrap64 (x53_3 + 1)) a0_0 l0_1) = some (r1, r2, r3, r4) := by first | (rw [hji44] at H; exact H) | (simp only [hji44] at H ⊢; exact H)
    have hji44_ : (if (wrap64 ((rd x7_3 (rd (rd_L1 l0_1 x42_2) x53_3)) * a1)) < 65 then (wrap64 ((rd x7_3 (rd (rd_L1 l0_1 x42_2) x53_3)) * a1)) else 65) = ji44 := hji44
    obtain ⟨y173, hy173⟩ : ∃ y_ : List Int, y_ = (x7_3.set ((rd (rd_L1 l0_1 x42_2) x53_3) : Int).toNat (ji44)) := ⟨_, rfl⟩
    replace H : (impl_FamilyTable.l1 k3 a1 (wrap64 (x6_2 + (wrap64 (((rd_L1 l0_1 x42_2).length : Int) - 1)))) y173 l0_1 (l0_1.length : Int) x42_2 (rd_L1 l0_1 x42_2) ((rd_L1 l0_1 x42_2).length : Int) (wrap64 (x53_3 + 1)) a0_0 l0_1) = some (r1, r2, r3, r4) := by first | (rw [hy173]; with_reducible exact H) | (have H2_ := (Option.bind_some _ _).symm.trans H; rw [hy173]; with_reducible exact H2_) | (have H2_ := (Option.bind_some _ _).symm.trans H; with_reducible exact H2_) | with_reducible exact H | (rw [hy173]; exact H) | exact H
    have Ny173 := Aside0.mk hy173
    clear hy173
    have H' := Aside0.mk H
    clear H
    have p171 : 0 ≤ (x53_3 : Int) := of_decide_eq_true (by first | (with_reducible assumption) | assumption)
    have q171 : x53_3 < ((rd_L1 l0_1 x42_2).length : Int) := of_decide_eq_true (by first | (with_reducible assumption) | assumption)
    obtain ⟨ad171, e171, hx171_0⟩ := Kd.at_int HR170_0.out x53_3 p171 q171
    cases e171
    replace hx171_0 := (HB.out.cell (World.block_lt_of_cell? w _ hx171_0)).trans hx171_0
    replace p171 := eq_true p171
    replace q171 := eq_true q171
    try go_wp2
    have n0_ := Aside0.mk (Kd.R_drew HO_7.out)
    have n1_ := Aside0.mk (blk_drew BK158.out)
    have n2_ := Aside0.mk (blk_drew BK159.out)
    have n3_ := Aside0.mk (blk_drew BK160.out)
    have n4_ := Aside0.mk (below_drew1 HB.out)
    clear HO_7
    clear BK158
    clear BK159
    clear BK160
    clear HB
    have HO_7 := n0_
    have BK158 := n1_
    have BK159 := n2_
    have BK160 := n3_
    have HB := n4_
    clear n0_ n1_ n2_ n3_ n4_
    obtain ⟨Ao47, co47, eo47⟩ := Kd.R_slice HO_7.out
    (first | subst eo47 | (injection eo47 with f1_ f2_ f3_; have f4_ := f1_.symm; have f5_ := f3_.symm; clear f1_ f2_ f3_; subst f4_; subst f5_))
    have p172 : 0 ≤ ((rd (rd_L1 l0_1 x42_2) x53_3) : Int) := of_decide_eq_true (by first | (with_reducible assumption) | assumption)
    have q172 : (rd (rd_L1 l0_1 x42_2) x53_3) < (x7_3.length : Int) := of_decide_eq_true (by first | (with_reducible assumption) | assumption)
    obtain ⟨ad172, e172, hx172_0⟩ := Kd.at_int (Kd.R_reads' HO_7.out).2.2 (rd (rd_L1 l0_1 x42_2) x53_3) p172 q172
    cases e172
    replace p172 := eq_true p172
    replace q172 := eq_true q172
    have p45 : 0 ≤ ((rd (rd_L1 l0_1 x42_2) x53_3) : Int) := of_decide_eq_true (by first | (with_reducible assumption) | assumption)
    have q45 : ((rd (rd_L1 l0_1 x42_2) x53_3) : Int) < ((x7_3.length : Int) : Int) := of_decide_eq_true (by first | (with_reducible assumption) | assumption)
    obtain ⟨go45, co45, eo45, gb45, gl45, cl45, HG45⟩ := Kd.R_form HO_7.out (by omega)
    (first | cases eo45 | (injection eo45 with ea_ en_ ec_; (first | subst ea_ | (injection ea_ with ea_; subst ea_)); subst ec_; clear en_))
    have GB45 := Aside0.mk gb45
    have GG45 := Aside0.mk HG45
    clear gb45 gl45 HG45
    (first | simp only [add_plain] at hx172_0 | skip)
    obtain ⟨hx45_0, hf45_0⟩ := Kd.R_celln 0 HO_7.out ((rd (rd_L1 l0_1 x42_2) x53_3) : Int) p45 q45
    replace p45 := eq_true p45
    replace q45 := eq_true q45
    have HP48 := Kd.R_putn HO_7.out ((rd (rd_L1 l0_1 x42_2) x53_3) : Int) ji44
    rw [← Ny173.out] at HP48
    have HQ48 := Aside0.mk HP48
    clear HP48
    refine start_ (n := 11) (S := fun w' => w'.cell? ⟨go45, ((rd (rd_L1 l0_1 x42_2) x53_3)).toNat, none⟩ = some (.int .i64 (rd x7_3 (rd (rd_L1 l0_1 x42_2) x53_3))) ∧ w'.cell? ⟨gb159, 0, none⟩ = some (.int .i64 a1)) (ds := [10]) #[false, false, false, false, false, false, false, false, false, false, false] (by kernel_rfl) rfl rfl ⟨hx172_0, (blk_cell BK159.out 0).trans rfl⟩ (fun hHeld => ?_); refine with_tabW impl_FamilyTable.tab13 impl_FamilyTable.bits13 (fun HT_ HW_ => ?_)
    generalize wr.drew = w46 at HO_7 BK158 BK159 BK160 HB GG45 HQ48 hf45_0 hx172_0 hx45_0 hHeld ⊢
    refine pure_ (i := 0) (N := some 57) (v := ?_) (a' := ?_) #[true, false, false, false, false, false, false, false, false, false, false] rfl rfl (any_of HT_.out (by kernel_rfl)) (fun _ _ _ h => h) (Or.inl ⟨by rfl, ?_⟩) ?_ ?_
    rotate_left
    ·
     intro w'
     go_simp
     with_reducible rfl
    rotate_left
    ·
     simp only [Act.put, List.setIfInBounds_toArray, List.set_cons_zero, List.set_cons_succ, i64_w, i32_w]
     rfl
    refine pure_ (i := 1) (N := some 58) (v := ?_) (a' := ?_) #[true, true, false, false, false, false, false, false, false, false, false] rfl rfl (any_of HT_.out (by kernel_rfl)) (fun _ _ _ h => h) (Or.inl ⟨by rfl, ?_⟩) ?_ ?_
    rotate_left
    ·
     intro w'
     go_simp
     with_reducible rfl
    rotate_left
    ·
     simp only [Act.put, List.setIfInBounds_toArray, List.set_cons_zero, List.set_cons_succ, i64_w, i32_w]
     rfl
    refine pure_ (i := 2) (N := some 59) (v := ?_) (a' := ?_) #[true, true, true, false, false, false, false, false, false, false, false] rfl rfl (any_of HT_.out (by kernel_rfl)) (fun _ _ _ h => h) (Or.inl ⟨by rfl, ?_⟩) ?_ ?_
    rotate_left
    ·
     intro w'
     go_simp
     with_reducible rfl
    rotate_left
    ·
     simp only [Act.put, List.setIfInBounds_toArray, List.set_cons_zero, List.set_cons_succ, i64_w, i32_w]
     rfl
    refine pure_ (i := 3) (N := some 60) (v := ?_) (a' := ?_) #[true, true, true, true, false, false, false, false, false, false, false] rfl rfl (any_of HT_.out (by kernel_rfl)) (fun _ _ _ h => h) (Or.inl ⟨by rfl, ?_⟩) ?_ ?_
    rotate_left
    ·
     intro w'
     go_simp
     with_reducible rfl
    rotate_left
    ·
     simp only [Act.put, List.setIfInBounds_toArray, List.set_cons_zero, List.set_cons_succ, i64_w, i32_w]
     rfl
    refine pure_ (i := 4) (N := some 61) (v := ?_) (a' := ?_) #[true, true, true, true, true, false, false, false, false, false, false] rfl rfl (any_of HT_.out (by kernel_rfl)) (fun _ _ _ h => h) (Or.inl ⟨by rfl, ?_⟩) ?_ ?_
    rotate_left
    ·
     intro w'
     go_simp
     with_reducible rfl
    rotate_left
    ·
     simp only [Act.put, List.setIfInBounds_toArray, List.set_cons_zero, List.set_cons_succ, i64_w, i32_w]
     rfl
    refine take_ (i := 6) (N := some 63) (v := ?_) (a' := ?_) #[true, true, true, true, true, false, true, false, false, false, false] rfl rfl (take_ofW HT_.out HW_.out (by kernel_rfl)) (fun _ _ _ h => h) (Or.inl ⟨by rfl, ?_⟩) hHeld ?_ ?_
    rotate_left
    ·
     rintro w' ⟨s0, s1⟩
     go_simp
     with_reducible rfl
    rotate_left
    ·
     simp only [Act.put, List.setIfInBounds_toArray, List.set_cons_zero, List.set_cons_succ, i64_w, i32_w]
     rfl
    refine take_ (i := 5) (N := some 62) (v := ?_) (a' := ?_) #[true, true, true, true, true, true, true, false, false, false, false] rfl rfl (take_ofW HT_.out HW_.out (by kernel_rfl)) (fun _ _ _ h => h) (Or.inl ⟨by rfl, ?_⟩) hHeld ?_ ?_
    rotate_left
    ·
     rintro w' ⟨s0, s1⟩
     go_simp
     with_reducible rfl
    rotate_left
    ·
     simp only [Act.put, List.setIfInBounds_toArray, List.set_cons_zero, List.set_cons_succ, i64_w, i32_w]
     rfl
    refine pure_ (i := 7) (N := some 64) (v := ?_) (a' := ?_) #[true, true, true, true, true, true, true, true, false, false, false] rfl rfl (any_of HT_.out (by kernel_rfl)) (fun _ _ _ h => h) (Or.inl ⟨by rfl, ?_⟩) ?_ ?_
    rotate_left
    ·
     intro w'
     go_simp
     with_reducible rfl
    rotate_left
    ·
     simp only [Act.put, List.setIfInBounds_toArray, List.set_cons_zero, List.set_cons_succ, i64_w, i32_w]
     rfl
    refine pure_ (i := 8) (N := some 65) (v := ?_) (a' := ?_) #[true, true, true, true, true, true, true, true, true, false, false] rfl rfl (any_of HT_.out (by kernel_rfl)) (fun _ _ _ h => h) (Or.inl ⟨by rfl, ?_⟩) ?_ ?_
    rotate_left
    ·
     intro w'
     go_simp
     with_reducible rfl
    rotate_left
    ·
     simp only [Act.put, List.setIfInBounds_toArray, List.set_cons_zero, List.set_cons_succ, i64_w, i32_w]
     rfl
    refine pure_ (i := 9) (N := some 66) (v := ?_) (a' := ?_) #[true, true, true, true, true, true, true, true, true, true, false] rfl rfl (any_of HT_.out (by kernel_rfl)) (fun _ _ _ h => h) (Or.inl ⟨by rfl, ?_⟩) ?_ ?_
    rotate_left
    ·
     intro w'
     go_simp
     with_reducible rfl
    rotate_left
    ·
     simp only [Act.put, List.setIfInBounds_toArray, List.set_cons_zero, List.set_cons_succ, i64_w, i32_w]
     rfl
    refine last_ (i := 10) (N := none) #[true, true, true, true, true, true, true, true, true, true, true] rfl rfl (one_of HT_.out (by kernel_rfl)) (by decide) (fun K hK => ?_)
    refine skip_ (w1 := ?_) (by rfl) rfl ?_ ?_
    rotate_left
    ·
     go_simp
     rfl
    refine hK.out _ _ ?_
    clear hK K
    refine done_ (done_of HT_.out (by kernel_rfl)) ?_
    try go_wp2
    go_roundg k3
    case measure => have := HJ4.out; have := HK2.out; have := HK3.out; omega
    case rel => exact ⟨(y173), (wrap64 (x53_3 + 1)), rfl, H', ⟨by have := HJ4.out; have := HK2.out; have := HK3.out; omega⟩, ⟨by (with_reducible repeat (first | apply Kd.R_alloc | apply Kd.R_drewN | apply Kd.R_drew)); exact HQ48.out⟩, ⟨by (with_reducible repeat (first | refine blk_drewN ?_ _ | refine blk_drew ?_ | refine blk_alloc ?_ _)); refine blk_far ?_ (by have h_ := Kd.R_ne HO_7.out BK158.out (by decide); intro e_; exact h_ (by rw [e_]; rfl)) _; (with_reducible repeat (first | refine blk_drewN ?_ _ | refine blk_drew ?_ | refine blk_alloc ?_ _)); exact BK158.out⟩, ⟨by (with_reducible repeat (first | refine blk_drewN ?_ _ | refine blk_drew ?_ | refine blk_alloc ?_ _)); refine blk_far ?_ (by intro e_; exact NQ159.out _ rfl (by first | exact e_ | exact e_.symm)) _; (with_reducible repeat (first | refine blk_drewN ?_ _ | refine blk_drew ?_ | refine blk_alloc ?_ _)); exact BK159.out⟩, ⟨by (with_reducible repeat (first | refine blk_drewN ?_ _ | refine blk_drew ?_ | refine blk_alloc ?_ _)); refine blk_far ?_ (by have h_ := Kd.R_ne HO_7.out BK160.out (by decide); intro e_; exact h_ (by rw [e_]; rfl)) _; (with_reducible repeat (first | refine blk_drewN ?_ _ | refine blk_drew ?_ | refine blk_alloc ?_ _)); exact BK160.out⟩, ⟨by repeat (first | exact HB.out | apply below_alloc | apply pw_below_drewN | apply below_drew1 | refine below_set ?_ GB45.out | refine below_set ?_ GE158.out | refine below_set ?_ GE159.out | refine below_set ?_ GE160.out)⟩⟩
end Go.Proofs.Ytdahdeohmbadhaa.TFam
