/- What the laws' own helpers on lists tell: has, inside, same, others. No program in sight. -/
import Derived.Test.YtmanloolbpmgiaaGx7
import Derived.Test.YtmanloolbpmgiaaGx7
import Derived.Test.YtmanloolbpmgiaaGx7
import Derived.Test.YtmanloolbpmgiaaGx7
import Derived.Test.YtmanloolbpmgiaaTMay
namespace Go.Proofs.Ytmanloolbpmgiaa.THas
open Go.RowKit Go.Proofs.YtmanloolbpmgiaaW.PrintWords Go.Proofs.YtmanloolbpmgiaaW.PrintMore Go.Proofs.Ytmanloolbpmgiaa.G Go.Proofs.Ytmanloolbpmgiaa.Fam Go.Proofs.Ytmanloolbpmgiaa.Loops Go.Proofs.Ytmanloolbpmgiaa.Valid Go.Proofs.Ytmanloolbpmgiaa.FamLaw Go.Proofs.Ytmanloolbpmgiaa.TMay
set_option linter.unusedVariables false
set_option maxRecDepth 100000

theorem has_loop (g : List Int) (x : Int) (hl : g.length ≤ 9223372036854775807) : ∀ (d i : Nat), i ≤ g.length → g.length - i = d → Ev (fun k => laws_a2Has.l0 k g x (i : Int)) (decide (x ∈ g.drop i)) := by
  intro d
  induction d with
  | zero =>
    intro i hi hd
    obtain rfl : i = g.length := by omega
    refine Ev.step (f := fun _ => some false) (fun k => by simp only [laws_a2Has.l0]; rw [if_neg (by omega)]) ?_
    rw [List.drop_length]
    exact Ev.now _
  | succ d ih =>
    intro i hi hd
    have hlt : i < g.length := by omega
    have h1 := ih (i + 1) (by omega) (by omega)
    rw [List.drop_eq_getElem_cons hlt]
    by_cases e : g[i] = x
    · refine Ev.step (f := fun _ => some true) (fun k => ?_) ?_
      · simp only [laws_a2Has.l0]
        rw [if_pos (by omega), if_pos (by omega), rd_nat]
        simp only [List.getD, List.getElem?_eq_getElem hlt, Option.getD_some]
        rw [if_pos e]
      · rw [decide_eq_true (by simp [e])]
        exact Ev.now _
    · refine Ev.step (fun k => ?_) (show Ev (fun k => laws_a2Has.l0 k g x ((i + 1 : Nat) : Int)) (decide (x ∈ g[i] :: g.drop (i + 1))) from ?_)
      · simp only [laws_a2Has.l0]
        rw [if_pos (by omega), if_pos (by omega), rd_nat]
        simp only [List.getD, List.getElem?_eq_getElem hlt, Option.getD_some]
        rw [if_neg e, wrap_id (by omega) (by omega)]
        rfl
      · rw [decide_eq_decide.2 (show x ∈ g[i] :: g.drop (i + 1) ↔ x ∈ g.drop (i + 1) from by rw [List.mem_cons]; exact ⟨fun h => h.resolve_left (fun h' => e h'.symm), .inr⟩)]
        exact h1
theorem has_is (g : List Int) (x : Int) (hl : g.length ≤ 9223372036854775807) : Ev (fun k => laws_a2Has.f k g x) (decide (x ∈ g)) := by
  have := has_loop g x hl g.length 0 (Nat.zero_le _) rfl
  rw [List.drop_zero] at this
  exact this
theorem group_len (c : Nat) : (groupN c).length ≤ 7 := by
  unfold groupN
  rw [List.length_map]
  have := List.length_filter_le c.testBit (List.range 7)
  simpa using this
theorem mem_group {c h : Nat} (hh : h < 7) : decide ((h : Int) ∈ groupN c) = c.testBit h := by
  rw [Bool.eq_iff_iff, decide_eq_true_iff, groupN_mem, Int.toNat_natCast]
  exact ⟨fun h => h.2.2, fun h' => ⟨by omega, by omega, h'⟩⟩
theorem has_group {c h : Nat} (hh : h < 7) : Ev (fun k => laws_a2Has.f k (groupN c) (h : Int)) (c.testBit h) := by
  have := has_is (groupN c) (h : Int) (by have := group_len c; omega)
  rwa [mem_group hh] at this
theorem inside_loop (a b : List Int) (ha : a.length ≤ 9223372036854775806) (hb : b.length ≤ 9223372036854775807) : ∀ (d i : Nat), i ≤ a.length → a.length - i = d → Ev (fun k => laws_a2Inside.l0 k a b (i : Int)) (decide (∀ x ∈ a.drop i, x ∈ b)) := by
  intro d
  induction d with
  | zero =>
    intro i hi hd
    obtain rfl : i = a.length := by omega
    refine Ev.step (f := fun _ => some true) (fun k => by simp only [laws_a2Inside.l0]; rw [if_neg (by omega)]) ?_
    rw [List.drop_length, decide_eq_true (by intro x hx; nomatch hx)]
    exact Ev.now _
  | succ d ih =>
    intro i hi hd
    have hlt : i < a.length := by omega
    have h1 := ih (i + 1) (by omega) (by omega)
    have hw : wrap64 ((i : Int) + 1) = ((i + 1 : Nat) : Int) := by rw [wrap_id (by omega) (by omega)]; omega
    have hrd : rd a (i : Int) = a[i] := by rw [rd_nat]; simp [List.getD, hlt]
    rw [List.drop_eq_getElem_cons hlt]
    refine Ev.step (f := fun k => (laws_a2Has.f k b a[i]).bind fun t204 => (if t204 = true then (laws_a2Inside.l0 k a b ((i + 1 : Nat) : Int)) else (some false))) (fun k => ?_) (Ev.bind (has_is b a[i] hb) ?_)
    · simp only [laws_a2Inside.l0]
      rw [if_pos (by omega), if_pos (by omega), hrd, hw]
    · by_cases e : a[i] ∈ b
      · rw [decide_eq_true e, decide_eq_decide.2 (show (∀ x ∈ a[i] :: a.drop (i + 1), x ∈ b) ↔ ∀ x ∈ a.drop (i + 1), x ∈ b from ⟨fun h x hx => h x (List.mem_cons_of_mem _ hx), fun h x hx => (List.mem_cons.1 hx).elim (fun he => he ▸ e) (h x)⟩)]
        simp only [if_true]
        exact h1
      · have hno : ¬ (∀ x ∈ a[i] :: a.drop (i + 1), x ∈ b) := fun h => e (h _ List.mem_cons_self)
        rw [decide_eq_false e, decide_eq_false hno]
        simp only [Bool.false_eq_true, if_false]
        exact Ev.now _
theorem inside_is (a b : List Int) (ha : a.length ≤ 9223372036854775806) (hb : b.length ≤ 9223372036854775807) : Ev (fun k => laws_a2Inside.f k a b) (decide (∀ x ∈ a, x ∈ b)) := by
  have := inside_loop a b ha hb a.length 0 (Nat.zero_le _) rfl
  rw [List.drop_zero] at this
  exact this
theorem asame_is (a b : List Int) (hb : a.length ≤ 9223372036854775807) : Ev (fun k => laws_a2Same.f k a b) (decide (a = b)) := by
  refine ⟨a.length + 1, fun k hk => ?_⟩
  show laws_a2Same.f k a b = _
  unfold laws_a2Same.f
  by_cases hl : a.length = b.length
  · rw [if_pos (by omega)]
    have := eq_loop (fun k i => laws_a2Same.l0 k a b i) a b hl hb (fun k i h0 h1 => by
      simp only [laws_a2Same.l0]
      rw [if_pos h1, if_pos h0, if_pos (by omega)]) (fun k => by simp only [laws_a2Same.l0]; rw [if_neg (by omega)]) a.length k 0 (by omega) (by omega) (by omega)
    simpa using this
  · rw [if_neg (by omega)]
    congr 1
    symm
    apply decide_eq_false
    rintro rfl
    exact hl rfl
/-- The holders that are not in a list, as a number. -/
def restL (l : List Int) (h : Nat) : Nat := (List.range h).foldl (fun (d j : Nat) => if (j : Int) ∈ l then d else d ||| 1 <<< j) 0
theorem restL_succ (l : List Int) (h : Nat) : restL l (h + 1) = if (h : Int) ∈ l then restL l h else restL l h ||| 1 <<< h := by
  unfold restL
  rw [List.range_succ, List.foldl_append]
  rfl
theorem restL_lt (l : List Int) : ∀ h, restL l h < 2 ^ h
  | 0 => by simp [restL]
  | h + 1 => by
    have h1 := restL_lt l h
    rw [restL_succ]
    split
    · rw [Nat.pow_succ]; omega
    · exact or_lt2 h1
theorem restL_bit (l : List Int) : ∀ h j, (restL l h).testBit j = (decide (j < h) && !decide ((j : Int) ∈ l))
  | 0, j => by simp [restL]
  | h + 1, j => by
    have h1 := restL_bit l h j
    rw [restL_succ]
    by_cases e : j = h
    · subst e
      have h2 := restL_lt l j
      by_cases hm : (j : Int) ∈ l
      · rw [if_pos hm, h1]; simp [hm]
      · rw [if_neg hm, Nat.testBit_or, h1, Nat.one_shiftLeft, Nat.testBit_two_pow]; simp [hm]
    · have h3 : (decide (j < h + 1)) = decide (j < h) := decide_eq_decide.2 (by omega)
      rw [h3, ← h1]
      split
      · rfl
      · rw [Nat.testBit_or, Nat.one_shiftLeft, Nat.testBit_two_pow, decide_eq_false (by omega), Bool.or_false]
theorem others_loop (l : List Int) (hl : l.length ≤ 9223372036854775807) (n : Nat) (hn : n ≤ 7) : ∀ (d h : Nat), h ≤ n → n - h = d → Ev (fun k => laws_a2Others.l0 k l (n : Int) (groupN (restL l h)) (h : Int)) (groupN (restL l n)) := by
  intro d
  induction d with
  | zero =>
    intro h hh hd
    obtain rfl : h = n := by omega
    refine Ev.step (f := fun _ => some (groupN (restL l h))) (fun k => ?_) (Ev.now _)
    simp only [laws_a2Others.l0]
    rw [if_neg (by omega)]
  | succ d ih =>
    intro h hh hd
    have h1 := ih (h + 1) (by omega) (by omega)
    have hw : wrap64 ((h : Int) + 1) = ((h + 1 : Nat) : Int) := by rw [wrap_id (by omega) (by omega)]; omega
    have hlen : (groupN (restL l h)).length < 17592186044416 := by have := group_len (restL l h); omega
    have h128 : restL l h < 128 := Nat.lt_of_lt_of_le (restL_lt l h) (two_pow_le (by omega))
    refine Ev.step (f := fun k => (laws_a2Has.f k l (h : Int)).bind fun t271 => (if t271 = true then (laws_a2Others.l0 k l (n : Int) (groupN (restL l h)) ((h + 1 : Nat) : Int)) else (if (groupN (restL l h)).length < 17592186044416 then (laws_a2Others.l0 k l (n : Int) (groupN (restL l h) ++ [(h : Int)]) ((h + 1 : Nat) : Int)) else (none)))) (fun k => ?_) (Ev.bind (has_is l (h : Int) hl) ?_)
    · simp only [laws_a2Others.l0]
      rw [if_pos (by omega), hw]
    · rw [restL_succ] at h1
      by_cases hm : (h : Int) ∈ l
      · rw [if_pos hm] at h1
        rw [decide_eq_true hm]
        simp only [if_true]
        exact h1
      · rw [if_neg hm] at h1
        rw [decide_eq_false hm]
        simp only [Bool.false_eq_true, if_false, hlen, if_true]
        rw [snoc_all ⟨h, by omega⟩ ⟨restL l h, h128⟩ (restL_lt l h)]
        exact h1
theorem others_of (l : List Int) (hl : l.length ≤ 9223372036854775807) (n : Nat) (hn : n ≤ 7) : Ev (fun k => laws_a2Others.f k l (n : Int)) (groupN (restL l n)) := by
  have := others_loop l hl n hn n 0 (Nat.zero_le _) rfl
  rw [show groupN (restL l 0) = [] from by rw [show restL l 0 = 0 from rfl]; decide] at this
  exact this

end Go.Proofs.Ytmanloolbpmgiaa.THas
