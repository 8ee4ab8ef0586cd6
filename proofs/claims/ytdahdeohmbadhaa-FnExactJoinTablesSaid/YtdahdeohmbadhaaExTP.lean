/- Words for the exact laws of two tables: a table that a statement has made, wherever its variable was made in it. -/
import Derived.Test.YtdahdeohmbadhaaExTC
import Derived.Deep.DeepCutAuto
namespace Go.Proofs.Ytdahdeohmbadhaa.ExTP
open Go.RowKit Go.Lib Go.Proofs Go.Proofs.YtdahdeohmbadhaaW.PrintWords Go.Proofs.YtdahdeohmbadhaaW.PrintWords.Kd Go.Proofs.YtdahdeohmbadhaaW.PrintLast Go.Proofs.YtdahdeohmbadhaaW.PrintMore Go.Proofs.Ytdahdeohmbadhaa.G Go.Proofs.Ytdahdeohmbadhaa.Loops Go.Proofs.Ytdahdeohmbadhaa.Mark Go.Proofs.Ytdahdeohmbadhaa.MarkT Go.Proofs.Ytdahdeohmbadhaa.ExF Go.Proofs.Ytdahdeohmbadhaa.ExT Go.Proofs.Ytdahdeohmbadhaa.ExTC
set_option linter.unusedVariables false
set_option linter.unusedSimpArgs false
theorem CL_alloc {w : World} {A : Option Addr} {n : Nat} {l : List Int} {o : Obj} (h : Kd.C (Kd.int .i64) w A n l) : Kd.C (Kd.int .i64) (w.alloc o) A n l := Kd.C_below h (below_alloc (Below.refl _ _) o)
theorem CW_alloc {w : World} {A : Option Addr} {n : Nat} {rs : List Row} {o : Obj} (h : Kd.C dW w A n rs) : Kd.C dW (w.alloc o) A n rs := Kd.C_below h (below_alloc (Below.refl _ _) o)
def BoxMade (W0 : World) (b : Nat) (n : Int) (sz : List Int) (rs : List Row) (T : TypeId) (g : Nat) (wx : World) (B : Option Addr) (d : Nat) (A : Option Addr) (c lo hi : Nat) : Prop :=
  wx.heap[g]? = some (.cells #[.int .i64 n, .slice B sz.length d, .slice A rs.length c] T (0, 0)) ∧ ItmT wx b (.slice B sz.length d) sz (.slice A rs.length c) rs lo hi ∧ W0.heap.size ≤ lo ∧ lo ≤ hi ∧ hi ≤ wx.heap.size ∧ W0.heap.size ≤ g ∧ (g < lo ∨ hi ≤ g) ∧ g < wx.heap.size ∧ Below W0.heap.size W0 wx
theorem kept_new {u W : World} {v0 v1 v2 : Value} {T : TypeId} (hb : Below (u.alloc (.cells #[v0, v1, v2] T)).heap.size (u.alloc (.cells #[v0, v1, v2] T)) W) : W.heap[u.heap.size]? = some (.cells #[v0, v1, v2] T (0, 0)) := blk_below (blk_new u _) hb
theorem kept_new' {u W : World} {v0 v1 v2 : Value} {T : TypeId} (hb : Below (u.alloc (.cells #[v0, v1, v2] T)).drew.heap.size (u.alloc (.cells #[v0, v1, v2] T)).drew W) : W.heap[u.heap.size]? = some (.cells #[v0, v1, v2] T (0, 0)) := blk_below (blk_drew (blk_new u _)) hb
theorem blk_three {W : World} {g : Nat} {v0 v1 v2 : Value} {T : TypeId} (h : W.heap[g]? = some (.cells #[v0, v1, v2] T (0, 0))) :
    W.cell? ⟨g, 0, none⟩ = some v0 ∧ W.cell? ⟨g, 1, none⟩ = some v1 ∧ W.cell? ⟨g, 2, none⟩ = some v2 ∧ W.frozen? ⟨g, 0, none⟩ = false ∧ W.frozen? ⟨g, 1, none⟩ = false ∧ W.frozen? ⟨g, 2, none⟩ = false :=
  ⟨(blk_cell h 0).trans rfl, (blk_cell h 1).trans rfl, (blk_cell h 2).trans rfl, blk_frozen h 0, blk_frozen h 1, blk_frozen h 2⟩
section
variable {W0 w5 : World} {b : Nat} {n : Int} {sz : List Int} {rs : List Row} {T : TypeId} {B A : Option Addr} {d c lo : Nat}
theorem BoxMade.last (h : Below W0.heap.size W0 w5) (it : ItmT w5 b (.slice B sz.length d) sz (.slice A rs.length c) rs lo w5.heap.size) (h1 : W0.heap.size ≤ lo) (h2 : lo ≤ w5.heap.size) :
    BoxMade W0 b n sz rs T w5.heap.size (w5.alloc (.cells #[.int .i64 n, .slice B sz.length d, .slice A rs.length c] T)) B d A c lo w5.heap.size :=
  ⟨blk_new w5 _, it.alloc _, h1, h2, by simp, h.size, Or.inr (Nat.le_refl _), by simp, h.alloc h.size _⟩
theorem BoxMade.early {g : Nat} {z0 z1 z2 : Value} (hz : w5.heap[g]? = some (.cells #[z0, z1, z2] T (0, 0))) (h : Below W0.heap.size W0 w5) (it : ItmT w5 b (.slice B sz.length d) sz (.slice A rs.length c) rs lo w5.heap.size) (h1 : W0.heap.size ≤ lo) (h2 : lo ≤ w5.heap.size) (hg0 : W0.heap.size ≤ g) (hg : g < lo) :
    BoxMade W0 b n sz rs T g (((w5.setCell ⟨g, 0, none⟩ (.int .i64 n)).setCell ⟨g, 1, none⟩ (.slice B sz.length d)).setCell ⟨g, 2, none⟩ (.slice A rs.length c)) B d A c lo w5.heap.size := by
  have hk : Kept w5 (((w5.setCell ⟨g, 0, none⟩ (.int .i64 n)).setCell ⟨g, 1, none⟩ (.slice B sz.length d)).setCell ⟨g, 2, none⟩ (.slice A rs.length c)) (fun k => k = g) := by
    refine ⟨by simp, ?_⟩
    intro k hk hk2
    rw [Below.heap_setCell _ _ _ _ hk2, Below.heap_setCell _ _ _ _ hk2, Below.heap_setCell _ _ _ _ hk2]
  refine ⟨blk_put (blk_put (blk_put hz 0 _ rfl) 1 _ rfl) 2 _ rfl, it.kept hk (fun k h_ h2_ => by omega), h1, h2, by simp, hg0, Or.inl hg, by simpa using blk_lt hz, ((h.setCell hg0 _).setCell hg0 _).setCell hg0 _⟩
end
end Go.Proofs.Ytdahdeohmbadhaa.ExTP
