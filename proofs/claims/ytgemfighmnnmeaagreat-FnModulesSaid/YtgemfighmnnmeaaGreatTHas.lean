/- What the laws' own helpers on lists tell: has, inside, same, others. No program in sight. -/
import Derived.Test.YtgemfighmnnmeaaGreatGx10
import Derived.Test.YtgemfighmnnmeaaGreatGx9
import Derived.Test.YtgemfighmnnmeaaGreatTMay
import Derived.Test.YtgemfighmnnmeaaGreatTHas0
namespace Go.Proofs.YtgemfighmnnmeaaGreat.THas
open Go.RowKit Go.Proofs.YtgemfighmnnmeaaGreatW.PrintWords Go.Proofs.YtgemfighmnnmeaaGreatW.PrintMore Go.Proofs.YtgemfighmnnmeaaGreat.G Go.Proofs.YtgemfighmnnmeaaGreat.Fam Go.Proofs.YtgemfighmnnmeaaGreat.Loops Go.Proofs.YtgemfighmnnmeaaGreat.Valid Go.Proofs.YtgemfighmnnmeaaGreat.FamLaw Go.Proofs.YtgemfighmnnmeaaGreat.TMay
set_option linter.unusedVariables false
set_option maxRecDepth 100000

theorem asame_is (a b : List Int) (hb : a.length ≤ 9223372036854775807) : Ev (fun k => laws_a2Same.f k a b) (decide (a = b)) := by
 refine ⟨a.length + 1, fun k hk => ?_⟩
 show laws_a2Same.f k a b = _
 unfold laws_a2Same.f
 by_cases hl : a.length = b.length
 ·
  rw [if_pos (by omega)]
  have := eq_loop (fun k i => laws_a2Same.l0 k a b i) a b hl hb (fun k i h0 h1 => by
   simp only [laws_a2Same.l0]
   rw [if_pos h1, if_pos h0, if_pos (by omega)]) (fun k => by simp only [laws_a2Same.l0]; rw [if_neg (by omega)]) a.length k 0 (by omega) (by omega) (by omega)
  simpa using this
 ·
  rw [if_neg (by omega)]
  congr 1
  symm
  apply decide_eq_false
  rintro rfl
  exact hl rfl
/-- The holders that are not in a list, as a number. -/
def restL (l : List Int) (h : Nat) : Nat := (List.range h).foldl (fun (d j : Nat) => if (j : Int) ∈ l then d else d ||| 1 <<< j) 0
theorem restL_succ (l : List Int) (h : Nat) : restL l (h + 1) = if (h : Int) ∈ l then restL l h else restL l h ||| 1 <<< h := by
 unfold restL
 rw [List.range_succ, List.foldl_append]
 rfl
theorem restL_lt (l : List Int) : ∀ h, restL l h < 2 ^ h
 | 0 => by simp [restL]
 | h + 1 => by
  have h1 := restL_lt l h
  rw [restL_succ]
  split
  ·
   rw [Nat.pow_succ]; omega
  ·
   exact or_lt2 h1
theorem restL_bit (l : List Int) : ∀ h j, (restL l h).testBit j = (decide (j < h) && !decide ((j : Int) ∈ l))
 | 0, j => by simp [restL]
 | h + 1, j => by
  have h1 := restL_bit l h j
  rw [restL_succ]
  by_cases e : j = h
  ·
   subst e
   have h2 := restL_lt l j
   by_cases hm : (j : Int) ∈ l
   ·
    rw [if_pos hm, h1]; simp [hm]
   ·
    rw [if_neg hm, Nat.testBit_or, h1, Nat.one_shiftLeft, Nat.testBit_two_pow]; simp [hm]
  ·
   have h3 : (decide (j < h + 1)) = decide (j < h) := decide_eq_decide.2 (by omega)
   rw [h3, ← h1]
   split
   ·
    rfl
   ·
    rw [Nat.testBit_or, Nat.one_shiftLeft, Nat.testBit_two_pow, decide_eq_false (by omega), Bool.or_false]
theorem others_loop (l : List Int) (hl : l.length ≤ 9223372036854775807) (n : Nat) (hn : n ≤ 7) : ∀ (d h : Nat), h ≤ n → n - h = d → Ev (fun k => laws_a2Others.l0 k l (n : Int) (groupN (restL l h)) (h : Int)) (groupN (restL l n)) := by
 intro d
 induction d with
 | zero =>
  intro h hh hd
  obtain rfl : h = n := by omega
  refine Ev.step (f := fun _ => some (groupN (restL l h))) (fun k => ?_) (Ev.now _)
  simp only [laws_a2Others.l0]
  rw [if_neg (by omega)]
 | succ d ih =>
  intro h hh hd
  have h1 := ih (h + 1) (by omega) (by omega)
  have hw : wrap64 ((h : Int) + 1) = ((h + 1 : Nat) : Int) := by rw [wrap_id (by omega) (by omega)]; omega
  have hlen : (groupN (restL l h)).length < 17592186044416 := by have := group_len (restL l h); omega
  have h128 : restL l h < 128 := Nat.lt_of_lt_of_le (restL_lt l h) (two_pow_le (by omega))
  refine Ev.step (f := fun k => (laws_a2Has.f k l (h : Int)).bind fun t271 => (if t271 = true then (laws_a2Others.l0 k l (n : Int) (groupN (restL l h)) ((h + 1 : Nat) : Int)) else (if (groupN (restL l h)).length < 17592186044416 then (laws_a2Others.l0 k l (n : Int) (groupN (restL l h) ++ [(h : Int)]) ((h + 1 : Nat) : Int)) else (none)))) (fun k => ?_) (Ev.bind (has_is l (h : Int) hl) ?_)
  ·
   simp only [laws_a2Others.l0]
   rw [if_pos (by omega), hw]
  ·
   rw [restL_succ] at h1
   by_cases hm : (h : Int) ∈ l
   ·
    rw [if_pos hm] at h1
    rw [decide_eq_true hm]
    simp only [if_true]
    exact h1
   ·
    rw [if_neg hm] at h1
    rw [decide_eq_false hm]
    simp only [Bool.false_eq_true, if_false, hlen, if_true]
    rw [snoc_all ⟨h, by omega⟩ ⟨restL l h, h128⟩ (restL_lt l h)]
    exact h1
theorem others_of (l : List Int) (hl : l.length ≤ 9223372036854775807) (n : Nat) (hn : n ≤ 7) : Ev (fun k => laws_a2Others.f k l (n : Int)) (groupN (restL l n)) := by
 have := others_loop l hl n hn n 0 (Nat.zero_le _) rfl
 rw [show groupN (restL l 0) = [] from by rw [show restL l 0 = 0 from rfl]; decide] at this
 exact this

end Go.Proofs.YtgemfighmnnmeaaGreat.THas
