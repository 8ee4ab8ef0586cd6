/- What the exact laws' own helpers on tables tell: sizes, copies, comparisons, marks that are held. Contracts of the exact laws' helpers over tables, rows of tables and rows of numbers; words for what they make. -/
import Derived.Test.YtdahdeohmbadhaaEx0
import Derived.Test.YtdahdeohmbadhaaMarkT
import Derived.Test.YtdahdeohmbadhaaGx9
import Derived.Test.YtdahdeohmbadhaaGx9
import Derived.Test.YtdahdeohmbadhaaGx7
import Derived.Test.YtdahdeohmbadhaaGx7
import Derived.Test.YtdahdeohmbadhaaGx8
import Derived.Deep.RegionHeld3
import Derived.BigQuiet
import Derived.Outline
namespace Go.Proofs.Ytdahdeohmbadhaa.ExT
open Go.RowKit Go.Lib Go.Proofs Go.Proofs.YtdahdeohmbadhaaW.PrintWords Go.Proofs.YtdahdeohmbadhaaW.PrintWords.Kd Go.Proofs.YtdahdeohmbadhaaW.PrintLast Go.Proofs.YtdahdeohmbadhaaW.PrintMore Go.Proofs.Ytdahdeohmbadhaa.G Go.Proofs.Ytdahdeohmbadhaa.Loops Go.Proofs.Ytdahdeohmbadhaa.Mark Go.Proofs.Ytdahdeohmbadhaa.MarkT Go.Proofs.Ytdahdeohmbadhaa.ExF
set_option linter.unusedVariables false
set_option linter.unusedSimpArgs false

theorem rdB (xs : List Row) (n : Nat) : rd_T87 xs (n : Int) = xs.getD n zW := by simp [rd_T87]
theorem getB {rs : List Row} {i : Nat} (hi : i < rs.length) : rs.getD i zW = rs[i] := by simp [List.getD, List.getElem?_eq_getElem hi]

/-! ### sizes -/

/-! ### copies -/

/-! ### comparisons -/
theorem eqRow_is (a b : Row) (hb : a.f1.length ≤ 9223372036854775807) : Ev (fun k => laws_eqRow.f k a.f0 a.f1 b.f0 b.f1) (decide (a = b)) := by
 unfold laws_eqRow.f
 by_cases h0 : a.f0 = b.f0
 ·
  simp only [if_pos h0]
  refine Ev.bind (a := decide (a.f1 = b.f1)) ⟨a.f1.length + 1, fun k hk => eqS_is _ _ k hb (by omega)⟩ ?_
  by_cases h1 : a.f1 = b.f1
  ·
   rw [decide_eq_true h1, decide_eq_true ((row_ext a b).2 ⟨h0, h1⟩)]
   exact Ev.now _
  ·
   rw [decide_eq_false h1, decide_eq_false (fun h => h1 ((row_ext a b).1 h).2)]
   exact Ev.now _
 ·
  simp only [if_neg h0]
  rw [decide_eq_false (fun h => h0 ((row_ext a b).1 h).1)]
  exact Ev.now _
theorem eqRowS_loop (a b : List Row) (hl : a.length = b.length) (hb : a.length ≤ 9223372036854775807) (hg : ∀ g ∈ a, g.f1.length ≤ 9223372036854775807) :
  ∀ (d i : Nat), i ≤ a.length → a.length - i = d → Ev (fun k => laws_eqRowS.l0 k a b (i : Int)) (decide (a.drop i = b.drop i)) := by
 intro d
 induction d with
 | zero =>
  intro i hi hd
  obtain rfl : i = a.length := by omega
  refine Ev.step (f := fun _ => some true) (fun k => by simp only [laws_eqRowS.l0]; rw [if_neg (by omega)]) ?_
  rw [List.drop_length, hl, List.drop_length, decide_eq_true rfl]
  exact Ev.now true
 | succ d ih =>
  intro i hi hd
  have hlt : i < a.length := by omega
  have hE := eqRow_is (a.getD i zW) (b.getD i zW) (by rw [getB hlt]; exact hg _ (List.getElem_mem _))
  refine Ev.step (f := fun k => (laws_eqRow.f k (a.getD i zW).f0 (a.getD i zW).f1 (b.getD i zW).f0 (b.getD i zW).f1).bind fun t => if t = true then laws_eqRowS.l0 k a b (wrap64 ((i : Int) + 1)) else some false) (fun k => by
   simp only [laws_eqRowS.l0]
   rw [if_pos (by omega), if_pos (by omega), if_pos (by omega), rdB, rdB]) (Ev.bind hE ?_)
  have hs : a.drop i = b.drop i ↔ a.getD i zW = b.getD i zW ∧ a.drop (i + 1) = b.drop (i + 1) := by
   rw [List.drop_eq_getElem_cons hlt, List.drop_eq_getElem_cons (show i < b.length by omega), getB hlt, getB (show i < b.length by omega), List.cons.injEq]
  have h1 := ih (i + 1) (by omega) (by omega)
  rw [show ((i + 1 : Nat) : Int) = wrap64 ((i : Int) + 1) from by rw [wrap_id (by omega) (by omega)]; omega] at h1
  by_cases h : a.getD i zW = b.getD i zW
  ·
   rw [decide_eq_true h, show decide (a.drop i = b.drop i) = decide (a.drop (i + 1) = b.drop (i + 1)) from decide_eq_decide.2 (hs.trans ⟨fun h' => h'.2, fun h' => ⟨h, h'⟩⟩)]
   simpa using h1
  ·
   rw [decide_eq_false h, show decide (a.drop i = b.drop i) = false from decide_eq_false (fun h' => h (hs.1 h').1)]
   simpa using Ev.now false
theorem eqRowS_is (a b : List Row) (hb : a.length ≤ 9223372036854775807) (hg : ∀ g ∈ a, g.f1.length ≤ 9223372036854775807) : Ev (fun k => laws_eqRowS.f k a b) (decide (a = b)) := by
 unfold laws_eqRowS.f
 by_cases hl : a.length = b.length
 ·
  have := eqRowS_loop a b hl hb hg a.length 0 (by omega) (by omega)
  rw [List.drop_zero, List.drop_zero] at this
  exact this.congr (fun k => by rw [if_pos (by omega)]; rfl)
 ·
  rw [show decide (a = b) = false from decide_eq_false (fun h => hl (by rw [h]))]
  refine Ev.congr (f := fun _ => some false) (fun k => by rw [if_neg (by omega)]) (Ev.now _)
theorem eqTable_is (n m : Int) (sz sz' : List Int) (a b : List Row) (hz : sz.length ≤ 9223372036854775807) (hb : a.length ≤ 9223372036854775807) (hg : ∀ g ∈ a, g.f1.length ≤ 9223372036854775807) : Ev (fun k => laws_eqTable.f k n sz a m sz' b) (decide (n = m ∧ sz = sz' ∧ a = b)) := by
 unfold laws_eqTable.f
 by_cases h0 : n = m
 ·
  simp only [if_pos h0]
  refine Ev.bind (a := decide (sz = sz')) ⟨sz.length + 1, fun k hk => eqS_is _ _ k hz (by omega)⟩ ?_
  by_cases h1 : sz = sz'
  ·
   simp only [decide_eq_true h1, if_true]
   refine Ev.bind (eqRowS_is a b hb hg) ?_
   by_cases h2 : a = b
   ·
    rw [decide_eq_true h2, decide_eq_true ⟨h0, h1, h2⟩]
    exact Ev.now _
   ·
    rw [decide_eq_false h2, decide_eq_false (fun h => h2 h.2.2)]
    exact Ev.now _
  ·
   rw [decide_eq_false h1, decide_eq_false (fun h => h1 h.2.1)]
   exact Ev.now _
 ·
  simp only [if_neg h0]
  rw [decide_eq_false (fun h => h0 h.1)]
  exact Ev.now _

/-! ### marks, held -/
theorem getD_mark (rs : List Row) (k0 : Int) (i : Nat) (hi : i < rs.length) : (markT rs k0).getD i zW = ⟨k0 + totT (rs.take i), upL (rs.getD i zW).f1.length (k0 + totT (rs.take i) + 1)⟩ := by
 have h := set_markT rs k0 i hi
 have hm : markT rs k0 = markT (rs.take (i + 1)) k0 ++ markT (rs.drop (i + 1)) (k0 + totT (rs.take (i + 1))) := by rw [← markT_append, List.take_append_drop]
 have hl : (markT (rs.take i) k0).length = i := by rw [markT_len, List.length_take]; omega
 rw [hm, List.take_succ_eq_append_getElem hi, markT_append, List.getD_eq_getElem?_getD, List.append_assoc, List.getElem?_append_right (by omega), hl, Nat.sub_self]
 simp [markT, List.getD, hi]
theorem heldRowS_loop (rs : List Row) (k0 : Int) (h0 : 0 ≤ k0) (hk0 : k0 + totT rs < 9223372036854775807) (hl : rs.length ≤ 9223372036854775807) : ∀ (d i : Nat), i ≤ rs.length → rs.length - i = d →
  Ev (fun k => laws_heldRowS.l0 k (markT rs k0) (k0 + totT (rs.take i)) (i : Int)) (k0 + totT rs) := by
 intro d
 induction d with
 | zero =>
  intro i hi hd
  obtain rfl : i = rs.length := by omega
  rw [List.take_length]
  exact Ev.step (f := fun _ => some (k0 + (totT rs : Int))) (fun k => by simp only [laws_heldRowS.l0]; rw [if_neg (by rw [markT_len]; omega)]) (Ev.now _)
 | succ d ih =>
  intro i hi hd
  have hlt : i < rs.length := by omega
  have h1 := ih (i + 1) (by omega) (by omega)
  have hle := len_le_totT hlt
  have hsucc := totT_take_succ hlt
  have hw : wrap64 ((i : Int) + 1) = ((i + 1 : Nat) : Int) := by rw [wrap_id (by omega) (by omega)]; omega
  have hw2 : wrap64 (k0 + (totT (rs.take i) : Int) + 1) = k0 + (totT (rs.take i) : Int) + 1 := wrap_id (by omega) (by omega)
  have hH := heldS_is (rs.getD i zW).f1.length (k0 + (totT (rs.take i) : Int) + 1) (by omega) (by omega)
  refine Ev.step (f := fun k => (laws_heldInt64S.f k (upL (rs.getD i zW).f1.length (k0 + (totT (rs.take i) : Int) + 1)) (k0 + (totT (rs.take i) : Int) + 1)).bind fun t204 => if t204 < 0 then some (-1) else laws_heldRowS.l0 k (markT rs k0) t204 ((i + 1 : Nat) : Int)) (fun k => ?_) (Ev.bind hH ?_)
  ·
   simp only [laws_heldRowS.l0]
   rw [if_pos (by rw [markT_len]; omega), if_pos (by omega), rdB, getD_mark rs k0 i hlt]
   simp only [if_true]
   rw [hw, hw2]
  ·
   simp only [if_neg (show ¬ k0 + (totT (rs.take i) : Int) + 1 + ((rs.getD i zW).f1.length : Int) < 0 by omega)]
   rw [show k0 + (totT (rs.take i) : Int) + 1 + ((rs.getD i zW).f1.length : Int) = k0 + (totT (rs.take (i + 1)) : Int) by omega]
   exact h1
theorem heldRowS_is (rs : List Row) (k0 : Int) (h0 : 0 ≤ k0) (hk0 : k0 + totT rs < 9223372036854775807) (hl : rs.length ≤ 9223372036854775807) : Ev (fun k => laws_heldRowS.f k (markT rs k0) k0) (k0 + totT rs) := by
 have := heldRowS_loop rs k0 h0 hk0 hl rs.length 0 (by omega) (by omega)
 show Ev (fun k => laws_heldRowS.l0 k (markT rs k0) k0 0) _
 simpa [totT] using this
theorem heldTable_is (n : Int) (sz : List Int) (rs : List Row) (k0 : Int) (h0 : 0 ≤ k0) (hk0 : k0 + sz.length + totT rs < 9223372036854775807) (hl : rs.length ≤ 9223372036854775807) : Ev (fun k => laws_heldTable.f k n (upL sz.length k0) (markT rs (k0 + sz.length)) k0) (k0 + sz.length + totT rs) := by
 unfold laws_heldTable.f
 refine Ev.bind (heldS_is sz.length k0 h0 (by omega)) ?_
 simp only [if_neg (show ¬ k0 + (sz.length : Int) < 0 by omega)]
 refine Ev.bind (heldRowS_is rs (k0 + sz.length) (by omega) hk0 hl) ?_
 simp only [if_neg (show ¬ k0 + (sz.length : Int) + (totT rs : Int) < 0 by omega)]
 exact Ev.now _

end Go.Proofs.Ytdahdeohmbadhaa.ExT

namespace Go.Proofs.Ytdahdeohmbadhaa.ExTC
open Go.RowKit Go.Lib Go.Proofs Go.Proofs.YtdahdeohmbadhaaW.PrintWords Go.Proofs.YtdahdeohmbadhaaW.PrintWords.Kd Go.Proofs.YtdahdeohmbadhaaW.PrintLast Go.Proofs.YtdahdeohmbadhaaW.PrintMore Go.Proofs.Ytdahdeohmbadhaa.G Go.Proofs.Ytdahdeohmbadhaa.Loops Go.Proofs.Ytdahdeohmbadhaa.Mark Go.Proofs.Ytdahdeohmbadhaa.MarkT Go.Proofs.Ytdahdeohmbadhaa.ExF Go.Proofs.Ytdahdeohmbadhaa.ExT
set_option linter.unusedVariables false
set_option linter.unusedSimpArgs false

/-! ### a row of numbers -/
theorem toL_calls (A : Option Addr) (c : Nat) (l : List Int) (hl : l.length ≤ 1048576) (w : World) (hC : Kd.C (Kd.int .i64) w A l.length l) (hc : l.length ≤ c) :
  Calls Try.prog 17 #[.slice A l.length c] w fun e w' => ∃ v, e = .returned v ∧ Kd.R (Kd.int .i64) 2 w' w.heap.size (fun _ => True) v l ∧ Below w.heap.size w w' :=
 laws_toInt64S.calls (l.length + 1) A c l l w hC hc (toS_is l _ hl (by omega))
theorem eqL_calls (A A' : Option Addr) (c c' : Nat) (a b : List Int) (w : World) (hC : Kd.C (Kd.int .i64) w A a.length a) (hc : a.length ≤ c) (hC' : Kd.C (Kd.int .i64) w A' b.length b) (hc' : b.length ≤ c') :
  Calls Try.prog 21 #[.slice A a.length c, .slice A' b.length c'] w fun e w' => e = .returned (.bool (decide (a = b))) ∧ Below w.heap.size w w' :=
 (laws_eqInt64S.calls (a.length + 1) A c a A' c' b _ w hC hc hC' hc' (eqS_is a b _ hC.2.1 (by omega))).mono fun e w' ⟨he, hd⟩ => ⟨he, by
  obtain ⟨q, rfl⟩ := hd.out
  exact pw_below_drewN (Below.refl _ _) q⟩
/-- A row that was made: its block is numbered from lo on, below hi. -/
structure ItmL (W : World) (b : Nat) (v : Value) (l : List Int) (lo hi : Nat) : Prop where
 s : Kd.R (Kd.int .i64) 2 W b (fun k => lo ≤ k ∧ k < hi) v l
 fit : hi ≤ W.heap.size
/-- Rows of a table that were made. -/
structure ItmS (W : World) (b : Nat) (v : Value) (rs : List Row) (lo hi : Nat) : Prop where
 s : Kd.S dW 87 W b (fun k => lo ≤ k ∧ k < hi) v rs
 fit : hi ≤ W.heap.size
section
variable {W W' : World} {b lo hi : Nat} {v : Value} {l : List Int} {rs : List Row} {P : Nat → Prop}
theorem ItmL.new' {W0 : World} {lo : Nat} (h : Kd.R (Kd.int .i64) 2 W W0.heap.size (fun _ => True) v l) (hlo : lo = W0.heap.size) (hb : b ≤ lo) : ItmL W b v l lo W.heap.size := by
 subst hlo; exact ⟨R_mono (R_lower (R_bound h) hb) (fun k hk => ⟨hk.2.1, hk.2.2.1⟩), Nat.le_refl _⟩
theorem ItmL.kept (h : ItmL W b v l lo hi) (hk : Kept W W' P) (ha : ∀ k, P k → ¬ (lo ≤ k ∧ k < hi)) : ItmL W' b v l lo hi := ⟨R_kept h.s hk (fun k hk hp => ha k hp hk), Nat.le_trans h.fit hk.1⟩
theorem ItmL.below (h : ItmL W b v l lo hi) (hb : Below W.heap.size W W') : ItmL W' b v l lo hi := h.kept (Kept.of_below hb (fun _ => False)) (fun _ hk => hk.elim)
theorem ItmL.alloc (h : ItmL W b v l lo hi) (o : Obj) : ItmL (W.alloc o) b v l lo hi := h.below (below_alloc (Below.refl _ _) o)
theorem ItmL.C {A : Option Addr} {n c : Nat} (h : ItmL W b (.slice A n c) l lo hi) : n = l.length ∧ n ≤ c ∧ Kd.C (Kd.int .i64) W A l.length l := R_reads' h.s
theorem ItmS.new' {W0 : World} {lo : Nat} (h : Kd.S dW 87 W W0.heap.size (fun _ => True) v rs) (hlo : lo = W0.heap.size) (hb : b ≤ lo) : ItmS W b v rs lo W.heap.size := by
 subst hlo; exact ⟨S_mono (S_lower (S_bound h) hb) (fun k hk => ⟨hk.2.1, hk.2.2.1⟩), Nat.le_refl _⟩
theorem ItmS.kept (h : ItmS W b v rs lo hi) (hk : Kept W W' P) (ha : ∀ k, P k → ¬ (lo ≤ k ∧ k < hi)) : ItmS W' b v rs lo hi := ⟨S_kept h.s hk (fun k hk hp => ha k hp hk), Nat.le_trans h.fit hk.1⟩
theorem ItmS.below (h : ItmS W b v rs lo hi) (hb : Below W.heap.size W W') : ItmS W' b v rs lo hi := h.kept (Kept.of_below hb (fun _ => False)) (fun _ hk => hk.elim)
theorem ItmS.alloc (h : ItmS W b v rs lo hi) (o : Obj) : ItmS (W.alloc o) b v rs lo hi := h.below (below_alloc (Below.refl _ _) o)
theorem ItmS.C {A : Option Addr} {n c : Nat} (h : ItmS W b (.slice A n c) rs lo hi) : n = rs.length ∧ n ≤ c ∧ Kd.C dW W A rs.length rs := S_reads' h.s
end

/-! ### rows of a table -/
theorem lens_R {w : World} {A : Option Addr} {rs : List Row} (h : Kd.C dW w A rs.length rs) : rs.length ≤ 9223372036854775807 ∧ ∀ g ∈ rs, g.f1.length ≤ 9223372036854775807 := ⟨h.2.1, fun g hg => by
 obtain ⟨i, hi, rfl⟩ := List.getElem_of_mem hg
 obtain ⟨_, _, _, _, _, _, _, hc⟩ := at_T87 h (i : Int) (by omega) (by omega)
 rw [rdB, getB hi] at hc
 exact hc.2.1⟩
theorem eqR_calls (A A' : Option Addr) (c c' : Nat) (a b : List Row) (w : World) (hC : Kd.C dW w A a.length a) (hc : a.length ≤ c) (hC' : Kd.C dW w A' b.length b) (hc' : b.length ≤ c') :
  Calls Try.prog 22 #[.slice A a.length c, .slice A' b.length c'] w fun e w' => e = .returned (.bool (decide (a = b))) ∧ Below w.heap.size w w' := by
 obtain ⟨k, hk⟩ := (eqRowS_is a b (lens_R hC).1 (lens_R hC).2).rounds
 exact laws_eqRowS.calls k A c a A' c' b _ w hC hc hC' hc' hk

/-! ### tables -/
theorem eqT_calls (n m : Int) (B : Option Addr) (d : Nat) (sz : List Int) (A : Option Addr) (c : Nat) (rs : List Row) (B' : Option Addr) (d' : Nat) (sz' : List Int) (A' : Option Addr) (c' : Nat) (rs' : List Row) (w : World) (hB : Kd.C (Kd.int .i64) w B sz.length sz) (hd : sz.length ≤ d) (hC : Kd.C dW w A rs.length rs) (hc : rs.length ≤ c) (hB' : Kd.C (Kd.int .i64) w B' sz'.length sz') (hd' : sz'.length ≤ d') (hC' : Kd.C dW w A' rs'.length rs') (hc' : rs'.length ≤ c') :
  Calls Try.prog 20 #[.agg #[.int .i64 n, .slice B sz.length d, .slice A rs.length c], .agg #[.int .i64 m, .slice B' sz'.length d', .slice A' rs'.length c']] w fun e w' => e = .returned (.bool (decide (n = m ∧ sz = sz' ∧ rs = rs'))) ∧ Below w.heap.size w w' := by
 obtain ⟨k, hk⟩ := (eqTable_is n m sz sz' rs rs' hB.2.1 (lens_R hC).1 (lens_R hC).2).rounds
 exact laws_eqTable.calls k n B d sz A c rs m B' d' sz' A' c' rs' _ w hB hd hC hc hB' hd' hC' hc' hk
theorem heldT_at (n : Int) (B : Option Addr) (d : Nat) (sz : List Int) (A : Option Addr) (c : Nat) (rs : List Row) (k0 : Int) (h0 : 0 ≤ k0) (hk0 : k0 + sz.length + totT rs < 9223372036854775807) (w : World) (L M : Nat) (hI : ∃ b lo hi, ItmT w b (.slice B L d) (upL sz.length k0) (.slice A M c) (markT rs (k0 + sz.length)) lo hi) :
  Calls Try.prog 26 #[.agg #[.int .i64 n, .slice B L d, .slice A M c], .int .i64 k0] w fun e w' => e = .returned (.int .i64 (k0 + sz.length + totT rs)) ∧ Below w.heap.size w w' := by
 obtain ⟨b, lo, hi, h⟩ := hI
 obtain ⟨⟨rfl, h2, h3⟩, ⟨rfl, h5, h6⟩⟩ := h.C
 have hl : rs.length ≤ 9223372036854775807 := by have := h6.2.1; rwa [markT_len] at this
 obtain ⟨k, hk⟩ := (heldTable_is n sz rs k0 h0 hk0 hl).rounds
 exact laws_heldTable.calls k n B d _ A c _ k0 _ w h3 h2 h6 h5 hk

/-- What a function that makes a table leaves. -/
def TabRes (W : World) (r1 : Int) (rz : List Int) (r2 : List Row) (r3 : Int) (e : Ending) (w' : World) : Prop :=
 ∃ v1 v2, e = .returned (.tuple #[.agg #[.int .i64 r1, v1, v2], .int .i64 r3]) ∧ Kd.R (Kd.int .i64) 2 w' W.heap.size (fun _ => True) v1 rz ∧ Kd.S dW 87 w' W.heap.size (fun k => some k ≠ v1.ownBlock) v2 r2 ∧ Below W.heap.size W w'
end Go.Proofs.Ytdahdeohmbadhaa.ExTC
