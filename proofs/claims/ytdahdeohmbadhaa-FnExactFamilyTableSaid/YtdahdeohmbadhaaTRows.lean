/- Contract of the program's compareRows, and the order of a table's rows. Contract of slices.SortFunc at a table's rows. -/
import Derived.Test.YtdahdeohmbadhaaCmp
import Derived.Test.YtdahdeohmbadhaaTSort
import Derived.Test.YtdahdeohmbadhaaMarkT
import Derived.Test.YtdahdeohmbadhaaGx3
import Derived.Deep.RegionHeld3
import Derived.BigQuiet
import Derived.Outline
namespace Go.Proofs.Ytdahdeohmbadhaa.TCmp
open Go.RowKit Go.Lib Go.Sort Go.Proofs Go.Proofs.YtdahdeohmbadhaaW.PrintWords Go.Proofs.YtdahdeohmbadhaaW.PrintWords.Kd Go.Proofs.YtdahdeohmbadhaaW.PrintLast Go.Proofs.YtdahdeohmbadhaaW.PrintMore Go.Proofs.Ytdahdeohmbadhaa.G Go.Proofs.Ytdahdeohmbadhaa.Fam Go.Proofs.Ytdahdeohmbadhaa.Loops Go.Proofs.Ytdahdeohmbadhaa.Bits Go.Proofs.Ytdahdeohmbadhaa.MarkT Go.Proofs.Ytdahdeohmbadhaa.TSort
set_option linter.unusedVariables false
set_option linter.unusedSimpArgs false

/-- Rows, by their secrets and then by their shares. -/
def cmpT (a b : Row) : Int := if a.f0 < b.f0 then -1 else if b.f0 < a.f0 then 1 else cmpL a.f1 b.f1
theorem cmpT_self (a : Row) : cmpT a a = 0 := by unfold cmpT; rw [if_neg (by omega), if_neg (by omega), cmpL_self]
theorem cmpT_neg (a b : Row) : cmpT b a = - cmpT a b := by
 unfold cmpT
 by_cases h1 : a.f0 < b.f0
 ·
  rw [if_neg (by omega), if_pos h1, if_pos h1]; omega
 ·
  by_cases h2 : b.f0 < a.f0
  ·
   rw [if_pos h2, if_neg h1, if_pos h2]
  ·
   rw [if_neg h2, if_neg h1, if_neg h1, if_neg h2, cmpL_neg]
theorem cmpT_zero {a b : Row} (h : cmpT a b = 0) : a = b := by
 unfold cmpT at h
 by_cases h1 : a.f0 < b.f0
 ·
  rw [if_pos h1] at h; omega
 ·
  rw [if_neg h1] at h
  by_cases h2 : b.f0 < a.f0
  ·
   rw [if_pos h2] at h; omega
  ·
   rw [if_neg h2] at h
   exact (row_ext a b).2 ⟨by omega, cmpL_zero _ _ h⟩
theorem cmpT_trans {a b c : Row} (h1 : cmpT a b < 0) (h2 : cmpT b c < 0) : cmpT a c < 0 := by
 unfold cmpT at *
 by_cases e1 : a.f0 < b.f0
 ·
  by_cases e2 : b.f0 < c.f0
  ·
   rw [if_pos (by omega)]; omega
  ·
   rw [if_neg e2] at h2
   by_cases e3 : c.f0 < b.f0
   ·
    rw [if_pos e3] at h2; omega
   ·
    rw [if_pos (by omega)]; omega
 ·
  rw [if_neg e1] at h1
  by_cases e3 : b.f0 < a.f0
  ·
   rw [if_pos e3] at h1; omega
  ·
   rw [if_neg e3] at h1
   by_cases e2 : b.f0 < c.f0
   ·
    rw [if_pos (by omega)]; omega
   ·
    rw [if_neg e2] at h2
    by_cases e4 : c.f0 < b.f0
    ·
     rw [if_pos e4] at h2; omega
    ·
     rw [if_neg e4] at h2
     rw [if_neg (by omega), if_neg (by omega)]
     exact cmpL_trans _ _ _ h1 h2
/-- In order. -/
abbrev leT : Row → Row → Bool := leOf cmpT
theorem leT_iff (a b : Row) : leT a b = true ↔ cmpT a b ≤ 0 := by
 unfold leT leOf
 have := cmpT_neg a b
 simp only [Bool.not_eq_true', decide_eq_false_iff_not]
 omega
theorem leT_total (a b : Row) : (leT a b || leT b a) = true := by
 rw [Bool.or_eq_true, leT_iff, leT_iff]
 have := cmpT_neg a b
 omega
theorem leT_anti (a b : Row) (h1 : leT a b = true) (h2 : leT b a = true) : a = b := by
 rw [leT_iff] at h1 h2
 have := cmpT_neg a b
 exact cmpT_zero (by omega)
theorem leT_trans (a b c : Row) (h1 : leT a b = true) (h2 : leT b c = true) : leT a c = true := by
 rw [leT_iff] at *
 by_cases e1 : cmpT a b = 0
 ·
  rw [cmpT_zero e1]; exact h2
 ·
  by_cases e2 : cmpT b c = 0
  ·
   rw [← cmpT_zero e2]; exact h1
  ·
   have := cmpT_trans (a := a) (b := b) (c := c) (by omega) (by omega)
   omega

/-- Behind a call that reads and may lay blocks of its own. -/
def G (W w' : World) : Prop := ∃ q os', w' = grow (W.drewN q) os'
theorem G_refl (W : World) : G W W := ⟨0, #[], by rw [grow_empty]; rfl⟩
theorem G_drew {W w' : World} (h : G W w') : G W w'.drew := by
 obtain ⟨q, os', rfl⟩ := h
 exact ⟨q + 1, os', by rw [drew_grow]; rfl⟩
theorem G_drewN {W w' : World} (h : G W w') : ∀ m, G W (w'.drewN m)
 | 0 => h
 | m + 1 => G_drew (G_drewN h m)
theorem G_alloc {W w' : World} (h : G W w') (o : Obj) : G W (w'.alloc o) := by
 obtain ⟨q, os', rfl⟩ := h
 exact ⟨q, os' ++ #[o], by rw [alloc_eq_grow, grow_grow]⟩

theorem G_trans {a b c : World} (h : G a b) (k : G b c) : G a c := by
 obtain ⟨q, os1, rfl⟩ := h
 obtain ⟨q2, os2, rfl⟩ := k
 exact ⟨q + q2, os1 ++ os2, by rw [show (grow (a.drewN q) os1).drewN q2 = grow ((a.drewN q).drewN q2) os1 from rfl, grow_grow, World.drewN_drewN]⟩
theorem G_cell {a b : World} (h : G a b) {x : Addr} {v : Value} (hx : a.cell? x = some v) : b.cell? x = some v := by
 obtain ⟨q, os1, rfl⟩ := h
 exact (cell?_grow (a.drewN q) os1 x (World.block_lt_of_cell? a _ hx)).trans hx
theorem G_below {a b : World} (h : G a b) : Go.RowKit.Below a.heap.size a b := by
 obtain ⟨q, os1, rfl⟩ := h
 exact ⟨rfl, rfl, rfl, by simp, fun k hk => by rw [heap_grow_old _ _ (by exact hk)]; rfl⟩
theorem or_is (a b : Int) : cmp_Or_int.f 5 [a, b] = some (if a = 0 then b else a) := by
 have hw0 : wrap64 (0 + 1) = 1 := wrap_id (by omega) (by omega)
 have hw1 : wrap64 (1 + 1) = 2 := wrap_id (by omega) (by omega)
 have hw2 : wrap64 1 = 1 := wrap_id (by omega) (by omega)
 have hw3 : wrap64 2 = 2 := wrap_id (by omega) (by omega)
 have r0 : ∀ a b : Int, Go.Proofs.YtdahdeohmbadhaaW.PrintWords.rd [a, b] 0 = a := fun _ _ => rfl
 have r1 : ∀ a b : Int, Go.Proofs.YtdahdeohmbadhaaW.PrintWords.rd [a, b] 1 = b := fun _ _ => rfl
 unfold cmp_Or_int.f
 by_cases h : a = 0
 ·
  by_cases h2 : b = 0
  ·
   simp [cmp_Or_int.l0, r0, r1, hw0, hw1, hw2, hw3, h, h2]
  ·
   simp [cmp_Or_int.l0, r0, r1, hw0, hw1, hw2, hw3, h, h2]
 ·
  simp [cmp_Or_int.l0, r0, r1, hw0, hw1, hw2, hw3, h]
theorem C_two (W : World) (a b : Int) (t : TypeId) {g : Nat} (hg : g = W.heap.size) : Kd.C (Kd.int .i64) (W.alloc (.cells #[.int .i64 a, .int .i64 b] t)) (some ⟨g, 0, none⟩) 2 [a, b] := by
 subst hg
 refine ⟨rfl, by decide, fun _ => ⟨⟨W.heap.size, 0, none⟩, rfl, fun j p hp => ⟨[.int .i64 p], rfl, rfl, fun i u hu => ?_⟩⟩⟩
 have hi : i = 0 := by
  have := (List.getElem?_eq_some_iff.1 hu).1
  simp at this
  exact this
 subst hi
 have hu' : u = .int .i64 p := by simpa using hu.symm
 subst hu'
 have hb := blk_new W (.cells #[.int .i64 a, .int .i64 b] t)
 match j, hp with
 | 0, hp =>
  have : p = a := by simpa using hp.symm
  subst this
  exact (blk_cell hb 0).trans rfl
 | 1, hp =>
  have : p = b := by simpa using hp.symm
  subst this
  exact (blk_cell hb 1).trans rfl
 | j + 2, hp => simp at hp

set_option maxHeartbeats 4000000 in
set_option maxRecDepth 100000 in
theorem compare_calls (x y : Row) (A A' : Option Addr) (c c' : Nat) (W : World) (h1 : Kd.C (Kd.int .i64) W A x.f1.length x.f1) (hc : x.f1.length ≤ c) (h2 : Kd.C (Kd.int .i64) W A' y.f1.length y.f1) (hc' : y.f1.length ≤ c') :
  Calls Try.prog 141 #[.agg #[.int .i64 x.f0, .slice A x.f1.length c], .agg #[.int .i64 y.f0, .slice A' y.f1.length c']] W fun e w' => e = .returned (.int .i64 (cmpT x y)) ∧ G W w' := by
 have hu := Try.underlying87
 have HCI := fun w => cmp_Compare_int64.calls x.f0 y.f0 _ w (compare_int x.f0 y.f0)
 have HCL := fun w h1 h2 => slices_Compare_int64_int64.calls (x.f1.length + 1) A c x.f1 A' c' y.f1 _ w h1 hc h2 hc' (compare_is x.f1 y.f1 _ h1.2.1 (by omega))
 have HCO : ∀ (a b : Int) (A3 : Option Addr) (w : World), Kd.C (Kd.int .i64) w A3 2 [a, b] → Calls Try.prog 179 #[.slice A3 2 2] w fun e w' => e = .returned (.int .i64 (if a = 0 then b else a)) ∧ ∃ q, w' = w.drewN q := fun a b A3 w h => (cmp_Or_int.calls 5 A3 2 [a, b] _ w h (Nat.le_refl _) (or_is a b)).mono fun e w' ⟨he, hd⟩ => ⟨he, hd.out⟩
 have HX := Aside0.mk h1
 have HY := Aside0.mk h2
 have HE : Aside0 (cmpT x y = (if (if x.f0 < y.f0 then -1 else if y.f0 < x.f0 then 1 else 0) = (0 : Int) then cmpL x.f1 y.f1 else (if x.f0 < y.f0 then -1 else if y.f0 < x.f0 then 1 else 0))) := ⟨by
  unfold cmpT
  by_cases e1 : x.f0 < y.f0
  ·
   rw [if_pos e1, if_pos e1, if_neg (by omega)]
  ·
   rw [if_neg e1, if_neg e1]
   by_cases e2 : y.f0 < x.f0
   ·
    rw [if_pos e2, if_pos e2, if_neg (by omega)]
   ·
    rw [if_neg e2, if_neg e2, if_pos rfl]⟩
 clear h1 h2
 generalize (if x.f0 < y.f0 then -1 else if y.f0 < x.f0 then 1 else (0 : Int)) = ci at *
 generalize cmpL x.f1 y.f1 = cl at *
 have HCO' := HCO ci cl
 rw [← HE.out] at HCO'
 clear HCO HE
 generalize cmpT x y = ct at *
 go_enter Try.func141, Try.ntmps141
 have hb1 := blk_alloc (blk_new W (.cells #[.int .i64 x.f0, .slice A x.f1.length c] 87)) (.cells #[.int .i64 y.f0, .slice A' y.f1.length c'] 87)
 have hb2 : ((W.alloc (.cells #[.int .i64 x.f0, .slice A x.f1.length c] 87)).alloc (.cells #[.int .i64 y.f0, .slice A' y.f1.length c'] 87)).heap[W.heap.size + 1]? = some (.cells #[.int .i64 y.f0, .slice A' y.f1.length c'] 87 (0, 0)) := by simpa using blk_new (W.alloc (.cells #[.int .i64 x.f0, .slice A x.f1.length c] 87)) (.cells #[.int .i64 y.f0, .slice A' y.f1.length c'] 87)
 have HK := Aside0.mk (fun (W' : World) (hg : G ((W.alloc (.cells #[.int .i64 x.f0, .slice A x.f1.length c] 87)).alloc (.cells #[.int .i64 y.f0, .slice A' y.f1.length c'] 87)) W') => show W'.cell? ⟨W.heap.size, 0, none⟩ = some (.int .i64 x.f0) ∧ W'.cell? ⟨W.heap.size, 1, none⟩ = some (.slice A x.f1.length c) ∧ W'.cell? ⟨W.heap.size + 1, 0, none⟩ = some (.int .i64 y.f0) ∧ W'.cell? ⟨W.heap.size + 1, 1, none⟩ = some (.slice A' y.f1.length c') ∧ G ((W.alloc (.cells #[.int .i64 x.f0, .slice A x.f1.length c] 87)).alloc (.cells #[.int .i64 y.f0, .slice A' y.f1.length c'] 87)) W' from ⟨G_cell hg ((blk_cell hb1 0).trans rfl), G_cell hg ((blk_cell hb1 1).trans rfl), G_cell hg ((blk_cell hb2 0).trans rfl), G_cell hg ((blk_cell hb2 1).trans rfl), hg⟩)
 have HX2 := Aside0.mk (fun (W' : World) (hg : G ((W.alloc (.cells #[.int .i64 x.f0, .slice A x.f1.length c] 87)).alloc (.cells #[.int .i64 y.f0, .slice A' y.f1.length c'] 87)) W') => Kd.C_below (Kd.C_alloc (Kd.C_alloc HX.out (.cells #[.int .i64 x.f0, .slice A x.f1.length c] 87)) (.cells #[.int .i64 y.f0, .slice A' y.f1.length c'] 87)) (G_below hg))
 have HY2 := Aside0.mk (fun (W' : World) (hg : G ((W.alloc (.cells #[.int .i64 x.f0, .slice A x.f1.length c] 87)).alloc (.cells #[.int .i64 y.f0, .slice A' y.f1.length c'] 87)) W') => Kd.C_below (Kd.C_alloc (Kd.C_alloc HY.out (.cells #[.int .i64 x.f0, .slice A x.f1.length c] 87)) (.cells #[.int .i64 y.f0, .slice A' y.f1.length c'] 87)) (G_below hg))
 have HG0 := Aside0.mk (G_alloc (G_alloc (G_refl W) (.cells #[.int .i64 x.f0, .slice A x.f1.length c] 87)) (.cells #[.int .i64 y.f0, .slice A' y.f1.length c'] 87))
 clear hb1 hb2
 go_wp2_with (fail)
 go_region_held3 (fun W' => W'.cell? ⟨W.heap.size, 0, none⟩ = some (.int .i64 x.f0) ∧ W'.cell? ⟨W.heap.size, 1, none⟩ = some (.slice A x.f1.length c) ∧ W'.cell? ⟨W.heap.size + 1, 0, none⟩ = some (.int .i64 y.f0) ∧ W'.cell? ⟨W.heap.size + 1, 1, none⟩ = some (.slice A' y.f1.length c') ∧ G ((W.alloc (.cells #[.int .i64 x.f0, .slice A x.f1.length c] 87)).alloc (.cells #[.int .i64 y.f0, .slice A' y.f1.length c'] 87)) W') ((refine HK.out _ ?_; (repeat (with_reducible first | assumption | exact G_refl _ | apply G_drewN | apply G_drew | apply G_alloc)))) (first | (go_at_call 180; refine (HCI _).mono ?_; rintro e w' ⟨rfl, hd⟩; obtain ⟨q1, rfl⟩ := hd.out) | (go_at_call 153; refine (HCL _ (HX2.out _ (by (repeat (with_reducible first | assumption | exact G_refl _ | apply G_drewN | apply G_drew | apply G_alloc)))) (HY2.out _ (by (repeat (with_reducible first | assumption | exact G_refl _ | apply G_drewN | apply G_drew | apply G_alloc))))).mono ?_; rintro e w' ⟨rfl, hd⟩; obtain ⟨q2, rfl⟩ := hd.out) | (go_at_call 179; refine (HCO' _ _ (by repeat (first | exact C_two _ _ _ _ (by simp) | apply Kd.C_drewN | apply Kd.C_drew))).mono ?_; rintro e w' ⟨rfl, q3, rfl⟩))
 go_wp2_with (fail)
 go_ret
 exact ⟨rfl, G_trans HG0.out (by (repeat (with_reducible first | assumption | exact G_refl _ | apply G_drewN | apply G_drew | apply G_alloc)))⟩

end Go.Proofs.Ytdahdeohmbadhaa.TCmp

namespace Go.Proofs.Ytdahdeohmbadhaa.TRows
open Go.RowKit Go.Lib Go.Sort Go.Proofs Go.Proofs.YtdahdeohmbadhaaW.PrintWords Go.Proofs.YtdahdeohmbadhaaW.PrintWords.Kd Go.Proofs.YtdahdeohmbadhaaW.PrintLast Go.Proofs.YtdahdeohmbadhaaW.PrintMore Go.Proofs.Ytdahdeohmbadhaa.G Go.Proofs.Ytdahdeohmbadhaa.Fam Go.Proofs.Ytdahdeohmbadhaa.MarkT Go.Proofs.Ytdahdeohmbadhaa.TSort Go.Proofs.Ytdahdeohmbadhaa.TCmp
set_option linter.unusedVariables false
set_option linter.unusedSimpArgs false

theorem rows_cmp (W : World) (base : Nat) (ok ok' : Nat → Prop) (x y : Row) (cx cy : List Value) (h1 : dW.M W base ok x cx) (h2 : dW.M W base ok' y cy) :
  Calls Try.prog 141 #[.agg cx.toArray, .agg cy.toArray] W fun e w' => e = .returned (.int .i64 (cmpT x y)) ∧ ∃ q os', w' = grow (W.drewN q) os' := by
 obtain ⟨v1, rfl, r1⟩ := k87_openM h1
 obtain ⟨v2, rfl, r2⟩ := k87_openM h2
 obtain ⟨A1, c1, rfl, hl1, hc1⟩ := R_reads r1
 obtain ⟨A2, c2, rfl, hl2, hc2⟩ := R_reads r2
 exact compare_calls x y A1 A2 c1 c2 W hc1 hl1 hc2 hl2
theorem sort_rows (base : Nat) (ok : Nat → Prop) (v : Value) (rs : List Row) (w : World) (h : Kd.S dW 87 w base ok v rs) (hlen : rs.length < 4611686018427387904) :
  Calls Try.prog 140 #[v, .func (.func 141) #[] #[]] w fun e w' => e = .returned (.tuple #[]) ∧ Kd.S dW 87 w' base ok v (rs.mergeSort leT) ∧ w.grownBy w' v.ownBlock := by
 by_cases hn : rs = []
 ·
  subst hn
  obtain ⟨A, c, rfl⟩ := S_slice h
  refine (Try.slices_SortFunc_none_f140 (α := Nat) A c _ w).mono fun e w' ⟨he, hw⟩ => ⟨he, ?_⟩
  rw [hw]
  exact ⟨by simpa using h, rfl, rfl, rfl, Nat.le_refl _, fun _ _ _ => rfl⟩
 have hpos : 0 < rs.length := List.length_pos_iff.2 hn
 have eg : ∀ args w, (callFunc 141 args).run Try.prog w = .ok (.enter 141 args) w := enters_of Try.func141 (by kernel_rfl) rfl
 exact sort_K dW 2 (by decide) rfl 87 140 141 cmpT (fun a h => by rw [cmpT_self] at h; omega) (fun a b c => cmpT_trans) leT_trans leT_total leT_anti
  (fun β _ enc hk h1 cf' hO blk off cap dd w hcmp hH hblk hsz => Try.slices_SortFunc_f140 enc hk h1 cf' hO 141 #[] blk off cap dd w eg hcmp hH hblk hsz)
  rows_cmp base ok v rs w h hpos hlen

end Go.Proofs.Ytdahdeohmbadhaa.TRows
