/- Contracts of the reference's l06Made and GatherTable: a table of rows in any order. What is made of sizes and rows. -/
import Derived.Test.YtdahdeohmbadhaaTMerge
import Derived.Test.YtdahdeohmbadhaaExTC
import Derived.Test.YtdahdeohmbadhaaGx5
namespace Go.Proofs.Ytdahdeohmbadhaa.TMade
open Go.RowKit Go.Lib Go.Proofs Go.Proofs.YtdahdeohmbadhaaW.PrintWords Go.Proofs.YtdahdeohmbadhaaW.PrintWords.Kd Go.Proofs.YtdahdeohmbadhaaW.PrintLast Go.Proofs.YtdahdeohmbadhaaW.PrintMore Go.Proofs.Ytdahdeohmbadhaa.G Go.Proofs.Ytdahdeohmbadhaa.Fam Go.Proofs.Ytdahdeohmbadhaa.Loops Go.Proofs.Ytdahdeohmbadhaa.MarkT Go.Proofs.Ytdahdeohmbadhaa.TSort Go.Proofs.Ytdahdeohmbadhaa.TCmp Go.Proofs.Ytdahdeohmbadhaa.TLess Go.Proofs.Ytdahdeohmbadhaa.TShape Go.Proofs.Ytdahdeohmbadhaa.TOk Go.Proofs.Ytdahdeohmbadhaa.TMerge Go.Proofs.Ytdahdeohmbadhaa.ExTC
set_option linter.unusedVariables false
set_option linter.unusedSimpArgs false

abbrev tabT : TypeId := 27
/-- A table is written into the result's variable. -/
def put3 (W : World) (g : Nat) (a b c : Value) : World := ((W.setCell ⟨g, 0, none⟩ a).setCell ⟨g, 1, none⟩ b).setCell ⟨g, 2, none⟩ c
theorem put3_blk {W : World} {g : Nat} {x y z a b c : Value} (h : W.heap[g]? = some (.cells #[x, y, z] tabT (0, 0))) : (put3 W g a b c).heap[g]? = some (.cells #[a, b, c] tabT (0, 0)) :=
 blk_put (blk_put (blk_put h 0 a rfl) 1 b rfl) 2 c rfl
theorem put3_R {W : World} {g base : Nat} {ok : Nat → Prop} {v : Value} {l : List Int} {x y z a b c : Value} (h : W.heap[g]? = some (.cells #[x, y, z] tabT (0, 0))) (hr : Kd.R (Kd.int .i64) 2 W base ok v l) : Kd.R (Kd.int .i64) 2 (put3 W g a b c) base ok v l :=
 R_set (R_set (R_set hr h (by decide) 0 a) (blk_set h 0 a) (by decide) 1 b) (blk_set (blk_set h 0 a) 1 b) (by decide) 2 c
theorem put3_S {W : World} {g base : Nat} {ok : Nat → Prop} {v : Value} {l : List Row} {x y z a b c : Value} (h : W.heap[g]? = some (.cells #[x, y, z] tabT (0, 0))) (hr : Kd.S dW 87 W base ok v l) : Kd.S dW 87 (put3 W g a b c) base ok v l :=
 S_set (S_set (S_set hr h (by decide) 0 a) (blk_set h 0 a) (by decide) 1 b) (blk_set (blk_set h 0 a) 1 b) (by decide) 2 c
theorem put3_below {w W : World} {g : Nat} {a b c : Value} (h : Below w.heap.size w W) (hg : w.heap.size ≤ g) : Below w.heap.size w (put3 W g a b c) := below_set (below_set (below_set h hg) hg) hg
/-- What is made of rows in any order. -/
def MadeRes (W : World) (code : Int) (n : Int) (sz : List Int) (rs : List Row) (e : Ending) (w' : World) : Prop :=
 if ShapeOk n sz rs then TabRes W n sz (rs.mergeSort leT) 0 e w' else TabRes W 0 [] [] code e w'

set_option maxHeartbeats 8000000 in
set_option maxRecDepth 100000 in
theorem made_calls (n : Int) (v1 v2 : Value) (sz : List Int) (rs : List Row) (w0 w : World) (hB : Below w0.heap.size w0 w) (h1 : Kd.R (Kd.int .i64) 2 w w0.heap.size (fun _ => True) v1 sz) (h2 : Kd.S dW 87 w w0.heap.size (fun k => some k ≠ v1.ownBlock) v2 rs) (hlen : rs.length ≤ 1048576) :
  Calls Try.prog 74 #[.int .i64 n, v1, v2] w fun e w' => MadeRes w0 3 n sz rs e w' ∧ Below w.heap.size w w' := by
 have hu := Try.underlying27
 obtain ⟨A1, c1, rfl, hc1, hC1⟩ := R_reads h1
 obtain ⟨A2, c2, rfl, hc2, hC2⟩ := S_reads h2
 obtain ⟨W2, hW2⟩ : ∃ W2, W2 = (w.alloc (.cells #[.int .i64 0, .slice none 0 0, .slice none 0 0] tabT)).alloc (.cells #[.int .i64 n, .slice A1 sz.length c1, .slice A2 rs.length c2] tabT) := ⟨_, rfl⟩
 have hB2 : Below w.heap.size w W2 := by rw [hW2]; exact below_alloc (below_alloc (Below.refl _ _) _) _
 have b6 : W2.heap[w.heap.size]? = some (.cells #[.int .i64 0, .slice none 0 0, .slice none 0 0] tabT (0, 0)) := by rw [hW2]; exact blk_alloc (blk_new w _) _
 have b8 : W2.heap[w.heap.size + 1]? = some (.cells #[.int .i64 n, .slice A1 sz.length c1, .slice A2 rs.length c2] tabT (0, 0)) := by
  rw [hW2]
  simpa using blk_new (w.alloc (.cells #[.int .i64 0, .slice none 0 0, .slice none 0 0] tabT)) (.cells #[.int .i64 n, .slice A1 sz.length c1, .slice A2 rs.length c2] tabT)
 have hT : TabBox W2 (w.heap.size + 1) n A1 c1 sz A2 c2 rs := ⟨(blk_cell b8 0).trans rfl, (blk_cell b8 1).trans rfl, (blk_cell b8 2).trans rfl, Kd.C_below hC1 hB2, hc1, Kd.C_below hC2 hB2, hc2⟩
 have HSH := shape_calls (w.heap.size + 1) n A1 c1 sz A2 c2 rs W2 hT
 have HB6 := Aside0.mk b6
 have HB8 := Aside0.mk b8
 have HB2 := Aside0.mk hB2
 have HBW := Aside0.mk hB
 have HR := Aside0.mk h1
 have HS := Aside0.mk h2
 have HW := Aside0.mk hW2
 have HL := Aside0.mk hlen
 unfold MadeRes
 by_cases hs : ShapeOk n sz rs
 ·
  rw [decide_eq_true hs] at HSH
  simp only [if_pos hs]
  clear hs hT b6 b8 hB2 hB h1 h2 hc1 hC1 hc2 hC2 hlen
  rw [hW2] at HSH
  clear hW2
  go_enter Try.func74, Try.ntmps74
  go_wp2_with (fail)
  (refine HSH.mono ?_; clear HSH; rintro e w' ⟨rfl, q, rfl⟩; rw [← HW.out])
  have HSORT := lsort_rows w0.heap.size _ (.slice A2 rs.length c2) rs (W2.drewN q) (S_drewN (S_below HS.out HB2.out) q) HL.out
  go_wp2_with (fail)
  (refine HSORT.mono ?_; clear HSORT; rintro e w3 ⟨v', rfl, hs3, hb3⟩)
  have hlt6 := blk_lt HB6.out
  have BK6 := Aside0.mk (blk_below (w := W2.drewN q) HB6.out hb3)
  have BK8 := Aside0.mk (blk_below (w := W2.drewN q) HB8.out hb3)
  obtain ⟨A9, c9, rfl⟩ := S_slice hs3
  rw [List.length_mergeSort] at hs3
  have HS3 := Aside0.mk hs3
  have HLT := Aside0.mk (R_lt HR.out)
  have HR3 := Aside0.mk (R_below (R_drewN (R_below HR.out HB2.out) q) hb3)
  have HBO := Aside0.mk (below_then (pw_below_drewN HB2.out q) (by have h2_ := HB2.out.size; simp; omega) hb3)
  have HB3 := Aside0.mk (below_then (pw_below_drewN (below_then HBW.out HBW.out.size HB2.out) q) (by have h1_ := HBW.out.size; have h2_ := HB2.out.size; simp; omega) hb3)
  clear hs3 hb3
  have HNE : w.heap.size ≠ w.heap.size + 1 := by omega
  generalize hg6 : w.heap.size = g6 at BK6 BK8 HNE ⊢
  have HG6 := Aside0.mk hg6
  clear hg6
  generalize hg8 : g6 + 1 = g8 at BK8 HNE ⊢
  have HG8 := Aside0.mk hg8
  clear hg8
  have x0 : w3.cell? ⟨g8, 0, none⟩ = some (.int .i64 n) := (blk_cell BK8.out 0).trans rfl
  have x1 : w3.cell? ⟨g8, 1, none⟩ = some (.slice A1 sz.length c1) := (blk_cell BK8.out 1).trans rfl
  have x2 : w3.cell? ⟨g8, 2, none⟩ = some (.slice A2 rs.length c2) := (blk_cell BK8.out 2).trans rfl
  have f2 := blk_frozen BK8.out 2
  have z0 : w3.cell? ⟨g6, 0, none⟩ = some (.int .i64 0) := (blk_cell BK6.out 0).trans rfl
  have z1 : w3.cell? ⟨g6, 1, none⟩ = some (.slice none 0 0) := (blk_cell BK6.out 1).trans rfl
  have z2 : w3.cell? ⟨g6, 2, none⟩ = some (.slice none 0 0) := (blk_cell BK6.out 2).trans rfl
  have e0 := blk_frozen BK6.out 0
  have e1 := blk_frozen BK6.out 1
  have e2 := blk_frozen BK6.out 2
  go_wp2_with (fail)
  have bk6 := blk_far BK6.out (p := ⟨g8, 2, none⟩) HNE (.slice A9 rs.length c9)
  refine bodyPost_ret (results_ct rfl _ _ g6 tabT #[.int .i64 n, .slice A1 sz.length c1, .slice A9 rs.length c9] (0, 0) _ rfl (put3_blk (W := w3.setCell ⟨g8, 2, none⟩ (.slice A9 rs.length c9)) bk6) Try.underlying27 rfl (by kernel_rfl)) rfl ?_
  refine ⟨⟨_, _, rfl, put3_R bk6 (R_set HR3.out BK8.out (by decide) 2 _), put3_S bk6 (S_mono (S_set HS3.out BK8.out (by decide) 2 _) (fun k hk e => ?_)), put3_below (below_set HB3.out ?_) ?_⟩, put3_below (below_set HBO.out (by have h2_ := HG6.out; have h3_ := HG8.out; omega)) (by have h2_ := HG6.out; omega)⟩
  ·
   rcases hk with hk | hk
   ·
    exact hk e
   ·
    have h1_ := HLT.out k e.symm
    have h2_ := HB2.out.size
    simp at hk
    omega
  ·
   have h1_ := HBW.out.size
   have h2_ := HG6.out
   have h3_ := HG8.out
   omega
  ·
   have h1_ := HBW.out.size
   have h2_ := HG6.out
   omega
 ·
  rw [decide_eq_false hs] at HSH
  simp only [if_neg hs]
  clear hs hT b6 b8 hB2 hB h1 h2 hc1 hC1 hc2 hC2 hlen
  rw [hW2] at HSH
  clear hW2
  go_enter Try.func74, Try.ntmps74
  go_wp2_with (fail)
  (refine HSH.mono ?_; clear HSH; rintro e w' ⟨rfl, q, rfl⟩; rw [← HW.out])
  have f0 := blk_frozen HB6.out 0
  have f1 := blk_frozen HB6.out 1
  have f2 := blk_frozen HB6.out 2
  have z0 : W2.cell? ⟨w.heap.size, 0, none⟩ = some (.int .i64 0) := (blk_cell HB6.out 0).trans rfl
  have z1 : W2.cell? ⟨w.heap.size, 1, none⟩ = some (.slice none 0 0) := (blk_cell HB6.out 1).trans rfl
  have z2 : W2.cell? ⟨w.heap.size, 2, none⟩ = some (.slice none 0 0) := (blk_cell HB6.out 2).trans rfl
  go_wp2_with (fail)
  refine bodyPost_ret (results_ct rfl _ _ w.heap.size tabT #[.int .i64 0, .slice none 0 0, .slice none 0 0] (0, 0) _ rfl (put3_blk (W := W2.drewN q) HB6.out) Try.underlying27 rfl (by kernel_rfl)) rfl ?_
  exact ⟨⟨_, _, rfl, R_nil _ _ _ _ _, S_nil _ _ _ _ _, put3_below (pw_below_drewN (below_then HBW.out HBW.out.size HB2.out) q) HBW.out.size⟩, put3_below (pw_below_drewN HB2.out q) (Nat.le_refl _)⟩
/-! ### what is made is small -/
theorem totT_le {m : Nat} : ∀ {rs : List Row}, (∀ r ∈ rs, r.f1.length ≤ m) → totT rs ≤ (m + 1) * rs.length
 | [], _ => by simp [totT]
 | r :: rs, h => by
  have h1 := h r List.mem_cons_self
  have h2 := totT_le (rs := rs) (fun x hx => h x (List.mem_cons_of_mem _ hx))
  simp only [totT, List.length_cons, Nat.mul_add, Nat.mul_one]
  omega
theorem shape_tot {n : Int} {sz : List Int} {rs : List Row} (h : ShapeOk n sz rs) : sz.length ≤ 7 ∧ totT (rs.mergeSort leT) ≤ 5600 := by
 have h1 := h.2.1
 have h2 := h.2.2.1
 have h3 : totT (rs.mergeSort leT) ≤ (7 + 1) * (rs.mergeSort leT).length := totT_le (fun r hr => by
  have := (h.2.2.2.2 r (List.mem_mergeSort.1 hr)).2.1
  omega)
 rw [List.length_mergeSort] at h3
 omega
/-- The parts of what is made. -/
theorem made_some (code n : Int) (sz : List Int) (rs : List Row) : ∃ (r1 : Int) (rz : List Int) (r2 : List Row) (r3 : Int), 1 + (rz.length : Int) + (totT r2 : Int) < 9223372036854775807 ∧ ∀ W, MadeRes W code n sz rs = TabRes W r1 rz r2 r3 := by
 by_cases h : ShapeOk n sz rs
 ·
  have := shape_tot h
  exact ⟨n, sz, rs.mergeSort leT, 0, by omega, fun W => by unfold MadeRes; funext e w'; simp only [if_pos h]⟩
 ·
  exact ⟨0, [], [], code, by simp [totT], fun W => by unfold MadeRes; funext e w'; simp only [if_neg h]⟩
end Go.Proofs.Ytdahdeohmbadhaa.TMade

namespace Go.Proofs.Ytdahdeohmbadhaa.TTail
open Go.RowKit Go.Lib Go.Proofs Go.Proofs.YtdahdeohmbadhaaW.PrintWords Go.Proofs.YtdahdeohmbadhaaW.PrintWords.Kd Go.Proofs.YtdahdeohmbadhaaW.PrintLast Go.Proofs.YtdahdeohmbadhaaW.PrintMore Go.Proofs.Ytdahdeohmbadhaa.G Go.Proofs.Ytdahdeohmbadhaa.Fam Go.Proofs.Ytdahdeohmbadhaa.Loops Go.Proofs.Ytdahdeohmbadhaa.MarkT Go.Proofs.Ytdahdeohmbadhaa.TSort Go.Proofs.Ytdahdeohmbadhaa.TCmp Go.Proofs.Ytdahdeohmbadhaa.TLess Go.Proofs.Ytdahdeohmbadhaa.TMerge Go.Proofs.Ytdahdeohmbadhaa.ExTC Go.Proofs.Ytdahdeohmbadhaa.TShape Go.Proofs.Ytdahdeohmbadhaa.TOk Go.Proofs.Ytdahdeohmbadhaa.TMade
set_option linter.unusedVariables false
set_option linter.unusedSimpArgs false

/-- What is made of sizes and rows. -/
def tailG (n : Int) (z : List Int) (rs : List Row) : Option (Int × List Int × List Row × Int) := if rs.length ≤ 1048576 then some (if ShapeOk n z rs then (n, z, rs.mergeSort leT, 0) else (0, [], [], 3)) else none
theorem made_as {n : Int} {z : List Int} {rs : List Row} {r1 : Int} {r2 : List Int} {r3 : List Row} {r4 : Int} (h : (if ShapeOk n z rs then (n, z, rs.mergeSort leT, (0 : Int)) else (0, [], [], 3)) = (r1, r2, r3, r4)) (W : World) : MadeRes W 3 n z rs = TabRes W r1 r2 r3 r4 := by
 unfold MadeRes
 by_cases hs : ShapeOk n z rs
 ·
  rw [if_pos hs] at h
  simp only [Prod.mk.injEq] at h
  obtain ⟨rfl, rfl, rfl, rfl⟩ := h
  funext e w'
  simp only [if_pos hs]
 ·
  rw [if_neg hs] at h
  simp only [Prod.mk.injEq] at h
  obtain ⟨rfl, rfl, rfl, rfl⟩ := h
  funext e w'
  simp only [if_neg hs]
end Go.Proofs.Ytdahdeohmbadhaa.TTail
