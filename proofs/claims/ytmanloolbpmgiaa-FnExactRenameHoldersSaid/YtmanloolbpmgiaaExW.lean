/- Words for the walks of the exact laws: what was made is kept apart by the numbers of its blocks. Contracts of the exact laws' helpers over one row of numbers. KEY E. -/
import Derived.Test.YtmanloolbpmgiaaExF
import Derived.Deep.RegionHeld3
import Derived.BigQuiet
import Derived.Outline
namespace Go.Proofs.Ytmanloolbpmgiaa.ExW
open Go.RowKit Go.Lib Go.Proofs Go.Proofs.YtmanloolbpmgiaaW.PrintWords Go.Proofs.YtmanloolbpmgiaaW.PrintWords.Kd Go.Proofs.YtmanloolbpmgiaaW.PrintLast Go.Proofs.YtmanloolbpmgiaaW.PrintMore Go.Proofs.Ytmanloolbpmgiaa.E Go.Proofs.Ytmanloolbpmgiaa.Loops Go.Proofs.Ytmanloolbpmgiaa.Mark Go.Proofs.Ytmanloolbpmgiaa.ExF
set_option linter.unusedVariables false
set_option linter.unusedSimpArgs false

/-- Rows of rows that were made: their blocks are numbered from lo on, below hi. -/
structure Itm (W : World) (b : Nat) (v : Value) (gs : List (List Int)) (lo hi : Nat) : Prop where
  s : Kd.S dR 28 W b (fun k => lo ≤ k ∧ k < hi) v gs
  fit : hi ≤ W.heap.size
section
variable {W W' : World} {b lo hi : Nat} {v : Value} {gs : List (List Int)} {P : Nat → Prop}
theorem Itm.new {W0 : World} (h : Kd.S dR 28 W W0.heap.size (fun _ => True) v gs) (hb : b ≤ W0.heap.size) : Itm W b v gs W0.heap.size W.heap.size :=
  ⟨S_mono (S_lower (S_bound h) hb) (fun k hk => ⟨hk.2.1, hk.2.2.1⟩), Nat.le_refl _⟩
theorem Itm.new' {W0 : World} {lo : Nat} (h : Kd.S dR 28 W W0.heap.size (fun _ => True) v gs) (hlo : lo = W0.heap.size) (hb : b ≤ lo) : Itm W b v gs lo W.heap.size := by
  subst hlo
  exact Itm.new h hb
theorem Itm.kept (h : Itm W b v gs lo hi) (hk : Kept W W' P) (ha : ∀ k, P k → ¬ (lo ≤ k ∧ k < hi)) : Itm W' b v gs lo hi := ⟨S_kept h.s hk (fun k hk hp => ha k hp hk), Nat.le_trans h.fit hk.1⟩
theorem Itm.below (h : Itm W b v gs lo hi) (hb : Below W.heap.size W W') : Itm W' b v gs lo hi := h.kept (Kept.of_below hb (fun _ => False)) (fun _ hk => hk.elim)
theorem Itm.alloc (h : Itm W b v gs lo hi) (o : Obj) : Itm (W.alloc o) b v gs lo hi := h.below (below_alloc (Below.refl _ _) o)
theorem Itm.reads (h : Itm W b v gs lo hi) : ∃ A c, v = .slice A gs.length c ∧ gs.length ≤ c ∧ dR.C W A gs.length gs := S_reads h.s
theorem Itm.C {A : Option Addr} {n c : Nat} (h : Itm W b (.slice A n c) gs lo hi) : n = gs.length ∧ n ≤ c ∧ dR.C W A gs.length gs := S_reads' h.s
end
theorem keep4 {w W : World} {a1 a2 a3 a4 : Addr} {v1 v2 v3 v4 : Value} (h1 : w.cell? a1 = some v1) (h2 : w.cell? a2 = some v2) (h3 : w.cell? a3 = some v3) (h4 : w.cell? a4 = some v4) (hb : Below w.heap.size w W) :
    W.cell? a1 = some v1 ∧ W.cell? a2 = some v2 ∧ W.cell? a3 = some v3 ∧ W.cell? a4 = some v4 ∧ Below w.heap.size w W := ⟨pw_cell_below hb h1, pw_cell_below hb h2, pw_cell_below hb h3, pw_cell_below hb h4, hb⟩
theorem C_alloc' {w : World} {A : Option Addr} {n : Nat} {gs : List (List Int)} {o : Obj} (h : dR.C w A n gs) : dR.C (w.alloc o) A n gs := C_below h (below_alloc (Below.refl _ _) o)
/-- A family that a statement has made, wherever its variable was made in it. -/
def BoxMade (W0 : World) (b : Nat) (n : Int) (gs : List (List Int)) (T : TypeId) (g : Nat) (wx : World) (A : Option Addr) (c lo hi : Nat) : Prop :=
  wx.heap[g]? = some (.cells #[.int .i64 n, .slice A gs.length c] T (0, 0)) ∧ Itm wx b (.slice A gs.length c) gs lo hi ∧ W0.heap.size ≤ lo ∧ lo ≤ hi ∧ hi ≤ wx.heap.size ∧ W0.heap.size ≤ g ∧ (g < lo ∨ hi ≤ g) ∧ g < wx.heap.size ∧ Below W0.heap.size W0 wx
theorem kept_new {u W : World} {v0 v1 : Value} {T : TypeId} (hb : Below (u.alloc (.cells #[v0, v1] T)).heap.size (u.alloc (.cells #[v0, v1] T)) W) : W.heap[u.heap.size]? = some (.cells #[v0, v1] T (0, 0)) := blk_below (blk_new u _) hb
theorem kept_new' {u W : World} {v0 v1 : Value} {T : TypeId} (hb : Below (u.alloc (.cells #[v0, v1] T)).drew.heap.size (u.alloc (.cells #[v0, v1] T)).drew W) : W.heap[u.heap.size]? = some (.cells #[v0, v1] T (0, 0)) := blk_below (blk_drew (blk_new u _)) hb
theorem blk_two {W : World} {g : Nat} {v0 v1 : Value} {T : TypeId} (h : W.heap[g]? = some (.cells #[v0, v1] T (0, 0))) :
    W.cell? ⟨g, 0, none⟩ = some v0 ∧ W.cell? ⟨g, 1, none⟩ = some v1 ∧ W.frozen? ⟨g, 0, none⟩ = false ∧ W.frozen? ⟨g, 1, none⟩ = false :=
  ⟨(blk_cell h 0).trans rfl, (blk_cell h 1).trans rfl, blk_frozen h 0, blk_frozen h 1⟩
theorem BoxMade.last {W0 w5 : World} {b : Nat} {n : Int} {gs : List (List Int)} {T : TypeId} {A : Option Addr} {c lo : Nat} (h : Below W0.heap.size W0 w5) (it : Itm w5 b (.slice A gs.length c) gs lo w5.heap.size) (h1 : W0.heap.size ≤ lo) (h2 : lo ≤ w5.heap.size) :
    BoxMade W0 b n gs T w5.heap.size (w5.alloc (.cells #[.int .i64 n, .slice A gs.length c] T)) A c lo w5.heap.size :=
  ⟨blk_new w5 _, it.alloc _, h1, h2, by simp, h.size, Or.inr (Nat.le_refl _), by simp, h.alloc h.size _⟩
theorem BoxMade.early {W0 w5 : World} {b g : Nat} {n : Int} {gs : List (List Int)} {T : TypeId} {A : Option Addr} {c lo : Nat} {z0 z1 : Value} (hz : w5.heap[g]? = some (.cells #[z0, z1] T (0, 0))) (h : Below W0.heap.size W0 w5) (it : Itm w5 b (.slice A gs.length c) gs lo w5.heap.size) (h1 : W0.heap.size ≤ lo) (h2 : lo ≤ w5.heap.size) (hg0 : W0.heap.size ≤ g) (hg : g < lo) :
    BoxMade W0 b n gs T g ((w5.setCell ⟨g, 0, none⟩ (.int .i64 n)).setCell ⟨g, 1, none⟩ (.slice A gs.length c)) A c lo w5.heap.size := by
  have hk : Kept w5 ((w5.setCell ⟨g, 0, none⟩ (.int .i64 n)).setCell ⟨g, 1, none⟩ (.slice A gs.length c)) (fun k => k = g) := by
    refine ⟨by simp, ?_⟩
    intro k hk hk2
    rw [Below.heap_setCell _ _ _ _ hk2, Below.heap_setCell _ _ _ _ hk2]
  refine ⟨blk_put (blk_put hz 0 _ rfl) 1 _ rfl, it.kept hk (fun k h_ h2_ => by omega), h1, h2, by simp, hg0, Or.inl hg, by simpa using blk_lt hz, (h.setCell hg0 _).setCell hg0 _⟩
/-- Rows of rows of a bounded size. -/
theorem total_le {m : Nat} : ∀ {gs : List (List Int)}, (∀ g ∈ gs, g.length ≤ m) → total gs ≤ m * gs.length
  | [], _ => by simp [total]
  | g :: gs, h => by
    have h1 := h g List.mem_cons_self
    have h2 := total_le (gs := gs) (fun x hx => h x (List.mem_cons_of_mem _ hx))
    simp only [total, List.length_cons, Nat.mul_add, Nat.mul_one]
    omega
theorem held_at (n : Int) (A : Option Addr) (c : Nat) (gs : List (List Int)) (k0 : Int) (h0 : 0 ≤ k0) (hk0 : k0 + total gs < 9223372036854775807) (w : World) (L : Nat) (hL : L = gs.length) (hC : dR.C w A (markG gs k0).length (markG gs k0)) (hc : L ≤ c) :
    Calls Try.prog 40 #[.agg #[.int .i64 n, .slice A L c], .int .i64 k0] w fun e w' => e = .returned (.int .i64 (k0 + total gs)) ∧ Below w.heap.size w w' := by
  have := heldF_calls n A c gs k0 h0 hk0 w hC (by rw [markG_len, ← hL]; exact hc)
  rwa [markG_len, ← hL] at this
theorem heldG_at (A : Option Addr) (c : Nat) (gs : List (List Int)) (k0 : Int) (h0 : 0 ≤ k0) (hk0 : k0 + total gs < 9223372036854775807) (w : World) (L : Nat) (hL : L = gs.length) (hC : dR.C w A (markG gs k0).length (markG gs k0)) (hc : L ≤ c) :
    Calls Try.prog 45 #[.slice A L c, .int .i64 k0] w fun e w' => e = .returned (.int .i64 (k0 + total gs)) ∧ Below w.heap.size w w' := by
  have := heldG_calls A c gs k0 h0 hk0 w hC (by rw [markG_len, ← hL]; exact hc)
  rwa [markG_len, ← hL] at this
end Go.Proofs.Ytmanloolbpmgiaa.ExW

namespace Go.Proofs.Ytmanloolbpmgiaa.ExL
open Go.RowKit Go.Lib Go.Proofs Go.Proofs.YtmanloolbpmgiaaW.PrintWords Go.Proofs.YtmanloolbpmgiaaW.PrintWords.Kd Go.Proofs.YtmanloolbpmgiaaW.PrintLast Go.Proofs.YtmanloolbpmgiaaW.PrintMore Go.Proofs.Ytmanloolbpmgiaa.E Go.Proofs.Ytmanloolbpmgiaa.Loops Go.Proofs.Ytmanloolbpmgiaa.Mark Go.Proofs.Ytmanloolbpmgiaa.ExF
set_option linter.unusedVariables false
theorem toL_calls (A : Option Addr) (c : Nat) (l : List Int) (hl : l.length ≤ 1048576) (w : World) (hC : Kd.C (Kd.int .i64) w A l.length l) (hc : l.length ≤ c) :
    Calls Try.prog 35 #[.slice A l.length c] w fun e w' => ∃ v, e = .returned v ∧ Kd.R (Kd.int .i64) 2 w' w.heap.size (fun _ => True) v l ∧ Below w.heap.size w w' :=
  laws_toInt64S.calls (l.length + 1) A c l l w hC hc (toS_is l _ hl (by omega))
theorem eqL_calls (A A' : Option Addr) (c c' : Nat) (a b : List Int) (w : World) (hC : Kd.C (Kd.int .i64) w A a.length a) (hc : a.length ≤ c) (hC' : Kd.C (Kd.int .i64) w A' b.length b) (hc' : b.length ≤ c') :
    Calls Try.prog 37 #[.slice A a.length c, .slice A' b.length c'] w fun e w' => e = .returned (.bool (decide (a = b))) ∧ Below w.heap.size w w' :=
  (laws_eqInt64S.calls (a.length + 1) A c a A' c' b _ w hC hc hC' hc' (eqS_is a b _ hC.2.1 (by omega))).mono fun e w' ⟨he, hd⟩ => ⟨he, by
    obtain ⟨q, rfl⟩ := hd.out
    exact pw_below_drewN (Below.refl _ _) q⟩
/-- A row that was made: its block is numbered from lo on, below hi. -/
structure ItmL (W : World) (b : Nat) (v : Value) (l : List Int) (lo hi : Nat) : Prop where
  s : Kd.R (Kd.int .i64) 2 W b (fun k => lo ≤ k ∧ k < hi) v l
  fit : hi ≤ W.heap.size
section
variable {W W' : World} {b lo hi : Nat} {v : Value} {l : List Int} {P : Nat → Prop}
theorem ItmL.new {W0 : World} (h : Kd.R (Kd.int .i64) 2 W W0.heap.size (fun _ => True) v l) (hb : b ≤ W0.heap.size) : ItmL W b v l W0.heap.size W.heap.size :=
  ⟨R_mono (R_lower (R_bound h) hb) (fun k hk => ⟨hk.2.1, hk.2.2.1⟩), Nat.le_refl _⟩
theorem ItmL.new' {W0 : World} {lo : Nat} (h : Kd.R (Kd.int .i64) 2 W W0.heap.size (fun _ => True) v l) (hlo : lo = W0.heap.size) (hb : b ≤ lo) : ItmL W b v l lo W.heap.size := by
  subst hlo; exact ItmL.new h hb
theorem ItmL.kept (h : ItmL W b v l lo hi) (hk : Kept W W' P) (ha : ∀ k, P k → ¬ (lo ≤ k ∧ k < hi)) : ItmL W' b v l lo hi := ⟨R_kept h.s hk (fun k hk hp => ha k hp hk), Nat.le_trans h.fit hk.1⟩
theorem ItmL.below (h : ItmL W b v l lo hi) (hb : Below W.heap.size W W') : ItmL W' b v l lo hi := h.kept (Kept.of_below hb (fun _ => False)) (fun _ hk => hk.elim)
theorem ItmL.alloc (h : ItmL W b v l lo hi) (o : Obj) : ItmL (W.alloc o) b v l lo hi := h.below (below_alloc (Below.refl _ _) o)
theorem ItmL.reads (h : ItmL W b v l lo hi) : ∃ A c, v = .slice A l.length c ∧ l.length ≤ c ∧ Kd.C (Kd.int .i64) W A l.length l := R_reads h.s
theorem ItmL.C {A : Option Addr} {n c : Nat} (h : ItmL W b (.slice A n c) l lo hi) : n = l.length ∧ n ≤ c ∧ Kd.C (Kd.int .i64) W A l.length l := by
  obtain ⟨A', c', e, hc, hC⟩ := h.reads
  injection e with e1 e2 e3
  subst e1; subst e2; subst e3
  exact ⟨rfl, hc, hC⟩
end
end Go.Proofs.Ytmanloolbpmgiaa.ExL
