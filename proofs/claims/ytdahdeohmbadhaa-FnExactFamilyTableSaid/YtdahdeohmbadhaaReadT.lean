/- From what an argument reads as (the rows' DataW.trod) to the printed words' kinds (Kd): integers, bools, slices of whatever is read so. No program in sight. -/
import Derived.Test.YtdahdeohmbadhaaWWords
import Derived.Deep.Slices
import Derived.ChangeArms
import Derived.DataReads
import Derived.ProofKit
namespace Go.Proofs.Ytdahdeohmbadhaa.Read
open Go.RowKit Go.Proofs.YtdahdeohmbadhaaW.PrintWords Go.Deep

/-- Whatever reads as a T is read by the kind d, and is good. -/
def Rb {H : Type} (enc : TypeId × Value → H) (P : Program) (w : World) (T : TypeId) {α : Type} (d : Kd α) (g : α → Prop) : Prop :=
 P.cellsOf T = d.sz ∧ ∀ (fuel : Nat) (cs : List Value) (x : DataW H × List MemPlace), DataW.trod enc P w 0 (fun _ => true) true fuel T cs = some x → ∃ a, d.K w a cs ∧ g a

section
variable {H : Type} {enc : TypeId × Value → H} {P : Program} {w : World}

theorem rb_int {T : TypeId} {k : IntKind} (ht : P.underlying T = some (.int k)) (hc : P.cellsOf T = 1) : Rb enc P w T (Kd.int k) (fun a => (Lit.int k a).wf = true) :=
 ⟨hc, fun _ _ _ h => by
  obtain ⟨n, rfl, _, hw⟩ := DataW.trod_int ht h
  exact ⟨n, rfl, hw⟩⟩

theorem rb_slice {α : Type} [Inhabited α] {T e : TypeId} {d : Kd α} {g : α → Prop} (ht : P.underlying T = some (.slice e)) (hc : P.cellsOf T = 1) (hd : Rb enc P w e d g) :
  Rb enc P w T (Kd.slice e d) (fun l => l.length ≤ maxLen ∧ ∀ a, a ∈ l → g a) :=
 ⟨hc, fun fuel cs x h => by
  obtain ⟨hsz, hel⟩ := hd
  rcases open_slice ht h with ⟨rfl, _⟩ | ⟨a, len, cap, m, n, D, Pl, rfl, _, hl, hm, hmm, _, hx⟩
  ·
   exact ⟨[], ⟨none, 0, rfl, Nat.le_refl _, Kd.C_nil d w⟩, by simp, fun a ha => by simp at ha⟩
  ·
   simp only [if_true] at hmm
   subst hmm
   obtain ⟨f, hf⟩ := choose_lt (α := α) (n := m) (p := fun i y => ∃ cs', w.cells? 0 (a.add (i * P.cellsOf e)) (P.cellsOf e) = some cs' ∧ d.K w y cs' ∧ g y) (fun i hi => by
    obtain ⟨cs', h1, h2⟩ := hx i hi
    obtain ⟨y, hy, hg⟩ := hel n cs' _ h2
    exact ⟨y, cs', h1, hy, hg⟩)
   have hlen : ((List.range len).map f).length = len := by simp
   refine ⟨(List.range len).map f, ⟨some a, m, by rw [hlen], by rw [hlen]; exact hl, ?_⟩, ?_, ?_⟩
   ·
    refine ⟨rfl, by rw [hlen]; unfold maxLen at hm; omega, fun _ => ⟨a, rfl, fun j p hj => ?_⟩⟩
    have hjl : j < len := by
     have := (List.getElem?_eq_some_iff.1 hj).1
     rwa [hlen] at this
    have hp : f j = p := by simpa [List.getElem?_map, List.getElem?_range hjl] using hj
    subst hp
    obtain ⟨cs', h1, h2, _⟩ := hf j (by omega)
    obtain ⟨_, hcl, hcell⟩ := World.cells?_some h1
    refine ⟨cs', by rw [hcl, hsz], h2, fun i u hu => ?_⟩
    have hil : i < P.cellsOf e := by
     have := (List.getElem?_eq_some_iff.1 hu).1
     omega
    rw [← hsz, ← Go.Deep.add_add, hcell i hil, hu]
   ·
    rw [hlen]; exact Nat.le_trans hl hm
   ·
    intro y hy
    obtain ⟨j, hj, rfl⟩ := List.mem_map.1 hy
    obtain ⟨_, _, _, hg⟩ := hf j (by have := List.mem_range.1 hj; omega)
    exact hg⟩

/-- A single cell that is a slice. -/
theorem slice_of {α : Type} [Inhabited α] {T : TypeId} {e : TypeId} {d : Kd α} {g : List α → Prop} (h : Rb enc P w T (Kd.slice e d) g) {fuel : Nat} {c : Value} {x : DataW H × List MemPlace} (hx : DataW.trod enc P w 0 (fun _ => true) true fuel T [c] = some x) :
  ∃ (A : Option Addr) (cap : Nat) (l : List α), c = .slice A l.length cap ∧ l.length ≤ cap ∧ d.C w A l.length l ∧ g l := by
 obtain ⟨l, ⟨A, cap, he, hl, hC⟩, hg⟩ := h.2 _ _ _ hx
 exact ⟨A, cap, l, by simpa using he, hl, hC, hg⟩
theorem int_of {T : TypeId} {k : IntKind} {g : Int → Prop} (h : Rb enc P w T (Kd.int k) g) {fuel : Nat} {c : Value} {x : DataW H × List MemPlace} (hx : DataW.trod enc P w 0 (fun _ => true) true fuel T [c] = some x) :
  ∃ a : Int, c = .int k a ∧ g a := by
 obtain ⟨a, he, hg⟩ := h.2 _ _ _ hx
 have he' : [c] = [Value.int k a] := he
 exact ⟨a, by simpa using he', hg⟩
end
end Go.Proofs.Ytdahdeohmbadhaa.Read
