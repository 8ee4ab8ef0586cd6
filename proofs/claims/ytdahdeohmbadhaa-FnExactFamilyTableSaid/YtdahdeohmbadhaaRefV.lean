/- What the printed functions on sets compute, as plain numbers. No program in sight. What ValidFamily tells: a family is valid, as plain Lean says it. No program in sight. The reference's order of groups. What the reference's printed functions on families compute. No program in sight. -/
import Derived.Test.YtdahdeohmbadhaaGb
import Derived.Test.YtdahdeohmbadhaaFam
import Derived.Test.YtdahdeohmbadhaaCmp
import Derived.Laws.BitsAllLaws
import Derived.Test.YtdahdeohmbadhaaGx6
import Derived.Test.YtdahdeohmbadhaaGx6
namespace Go.Proofs.Ytdahdeohmbadhaa.Bits
open Go.RowKit Go.Proofs.YtdahdeohmbadhaaW.PrintWords Go.Proofs.YtdahdeohmbadhaaW.PrintMore Go.Proofs.Ytdahdeohmbadhaa.G Go.Proofs.Ytdahdeohmbadhaa.Fam Go.Proofs.Ytdahdeohmbadhaa.Loops
set_option linter.unusedVariables false
set_option maxRecDepth 100000

theorem more {α : Type} {g : Nat → Option α} (h : ∀ k, LeO (g k) (g (k + 1))) {k k' : Nat} (hk : k ≤ k') {r : α} (hr : g k = some r) : g k' = some r := at_rounds h hk hr

/-! ### sets of at most seven holders: by looking at all of them -/
theorem or_all : ∀ c : Fin 128, ∀ h : Fin 7, Go.bits .or .u64 ((c.val : Nat) : Int) (shl .u64 1 ((h.val : Nat) : Int)) = ((c.val ||| 1 <<< h.val : Nat) : Int) := by decide +kernel
theorem or_is {c h : Nat} (hc : c < 128) (hh : h < 7) : Go.bits .or .u64 (c : Int) (shl .u64 1 (h : Int)) = ((c ||| 1 <<< h : Nat) : Int) := or_all ⟨c, hc⟩ ⟨h, hh⟩
theorem or_lt {c h : Nat} (hc : c < 128) (hh : h < 7) : c ||| 1 <<< h < 128 := by
 refine Nat.or_lt_two_pow (n := 7) hc ?_
 rw [Nat.one_shiftLeft]
 exact Nat.pow_lt_pow_right (by omega) hh
theorem contains_is {a b : Nat} (ha : a < 128) (hb : b < 128) : impl_crowd_contains.f (a : Int) (b : Int) = some (decide (a &&& b = b)) := by
 unfold impl_crowd_contains.f
 rw [u64_and_nat a b (by omega) (by omega)]
 congr 1
 rw [Bool.eq_iff_iff, beq_iff_eq, decide_eq_true_iff]
 omega

/-! ### lists -/
theorem within_is (a b c : Int) : impl_within.f a b c = some (decide (b ≤ a ∧ a ≤ c)) := by
 unfold impl_within.f
 by_cases h : a ≥ b
 ·
  rw [if_pos h]; congr 1; apply decide_eq_decide.2; omega
 ·
  rw [if_neg h]; congr 1; symm; apply decide_eq_false; omega
theorem foldl_lt (g : List Int) (hg : ∀ x ∈ g, 0 ≤ x ∧ x < 7) : ∀ c, c < 128 → g.foldl (fun b h => b ||| 1 <<< h.toNat) c < 128 := by
 induction g with
 | nil => intro c hc; exact hc
 | cons a g ih =>
  intro c hc
  have := hg a (by simp)
  exact ih (fun x hx => hg x (by simp [hx])) _ (or_lt hc (by omega))
theorem crowdOf_loop (g : List Int) (hl : g.length ≤ 9223372036854775807) (hg : ∀ x ∈ g, 0 ≤ x ∧ x < 7) : ∀ (d k n c : Nat), n ≤ g.length → g.length - n = d → d < k → c < 128 →
  impl_crowdOf.l0 k (c : Int) g (g.length : Int) (n : Int) = some ((((g.drop n).foldl (fun b h => b ||| 1 <<< h.toNat) c : Nat)) : Int) := by
 intro d
 induction d with
 | zero =>
  intro k n c hn hd hk hc
  obtain ⟨k, rfl⟩ : ∃ m, k = m + 1 := ⟨k - 1, by omega⟩
  obtain rfl : n = g.length := by omega
  simp only [impl_crowdOf.l0]
  rw [if_neg (by omega), List.drop_length]
  rfl
 | succ d ih =>
  intro k n c hn hd hk hc
  obtain ⟨k, rfl⟩ : ∃ m, k = m + 1 := ⟨k - 1, by omega⟩
  have hlt : n < g.length := by omega
  have hx := hg g[n] (List.getElem_mem hlt)
  simp only [impl_crowdOf.l0]
  rw [if_pos (by omega), if_pos (by omega), if_pos (by omega), rd_nat]
  simp only [List.getD, List.getElem?_eq_getElem hlt, Option.getD_some]
  rw [if_pos hx.1, wrap_id (by omega) (by omega)]
  obtain ⟨y, hy⟩ : ∃ y : Nat, g[n] = (y : Int) := ⟨g[n].toNat, by omega⟩
  rw [hy, or_is hc (by omega), List.drop_eq_getElem_cons hlt, List.foldl_cons, hy]
  exact ih k (n + 1) _ (by omega) (by omega) (by omega) (by exact or_lt hc (by omega))
theorem crowdOf_is (g : List Int) (k : Nat) (hl : g.length ≤ 9223372036854775807) (hg : ∀ x ∈ g, 0 ≤ x ∧ x < 7) (hk : g.length < k) : impl_crowdOf.f k g = some ((bitsN g : Nat) : Int) := by
 unfold impl_crowdOf.f
 exact crowdOf_loop g hl hg g.length k 0 0 (by omega) (by omega) hk (by omega)

instance (n : Nat) (g : List Int) : Decidable (isGroupN n g) := by unfold isGroupN; exact inferInstance
/-- isGroup, from an index on. -/
theorem isGroup_loop (m : Int) (g : List Int) (hm : 0 ≤ m) (hm2 : m < 9223372036854775807) (hl : g.length ≤ 9223372036854775807) : ∀ (d k n : Nat), n ≤ g.length → g.length - n = d → d < k →
  ∃ b, impl_isGroup.l0 k m g g (g.length : Int) (n : Int) = some b ∧ (b = true ↔ ∀ i, i < g.length → n ≤ i → (0 ≤ g.getD i 0 ∧ g.getD i 0 < m) ∧ (0 < i → g.getD (i - 1) 0 < g.getD i 0)) := by
 intro d
 induction d with
 | zero =>
  intro k n hn hd hk
  obtain ⟨k, rfl⟩ : ∃ j, k = j + 1 := ⟨k - 1, by omega⟩
  refine ⟨true, ?_, ?_⟩
  ·
   simp only [impl_isGroup.l0]; rw [if_neg (by omega)]
  ·
   simp only [true_iff]; intro i hi h; omega
 | succ d ih =>
  intro k n hn hd hk
  obtain ⟨k, rfl⟩ : ∃ j, k = j + 1 := ⟨k - 1, by omega⟩
  have hlt : n < g.length := by omega
  simp only [impl_isGroup.l0]
  rw [if_pos (by omega), if_pos (by omega), if_pos (by omega), rd_nat, within_is, wrap_id (by omega) (by omega)]
  simp only [Option.bind_some, decide_eq_true_eq]
  by_cases h1 : 0 ≤ g.getD n 0 ∧ g.getD n 0 ≤ m - 1
  ·
   rw [if_pos h1]
   obtain ⟨b, hb, hb'⟩ := ih k (n + 1) (by omega) (by omega) (by omega)
   have hnext : ((n : Int) + 1) = ((n + 1 : Nat) : Int) := by omega
   by_cases h2 : (n : Int) > 0
   ·
    rw [if_pos h2, wrap_id (by omega) (by omega), if_pos (by omega), if_pos (by omega)]
    have hprev : ((n : Int) - 1) = ((n - 1 : Nat) : Int) := by omega
    rw [hprev, rd_nat]
    by_cases h3 : g.getD n 0 ≤ g.getD (n - 1) 0
    ·
     rw [if_pos h3]
     refine ⟨false, rfl, ?_⟩
     simp only [Bool.false_eq_true, false_iff]
     intro h
     have := (h n hlt (Nat.le_refl _)).2 (by omega)
     omega
    ·
     rw [if_neg h3, wrap_id (by omega) (by omega), hnext]
     refine ⟨b, hb, hb'.trans ⟨fun h i hi hni => ?_, fun h i hi hni => h i hi (by omega)⟩⟩
     by_cases e : i = n
     ·
      subst e; exact ⟨by omega, fun _ => by omega⟩
     ·
      exact h i hi (by omega)
   ·
    rw [if_neg h2, wrap_id (by omega) (by omega), hnext]
    refine ⟨b, hb, hb'.trans ⟨fun h i hi hni => ?_, fun h i hi hni => h i hi (by omega)⟩⟩
    by_cases e : i = n
    ·
     subst e; exact ⟨by omega, fun _ => by omega⟩
    ·
     exact h i hi (by omega)
  ·
   rw [if_neg h1]
   refine ⟨false, rfl, ?_⟩
   simp only [Bool.false_eq_true, false_iff]
   intro h
   have := (h n hlt (Nat.le_refl _)).1
   omega
theorem getD_of {g : List Int} {i : Nat} (hi : i < g.length) : g.getD i 0 = g[i] := by simp [List.getD, List.getElem?_eq_getElem hi]
theorem pairwise_adj (g : List Int) : g.Pairwise (· < ·) ↔ ∀ i, i < g.length → 0 < i → g.getD (i - 1) 0 < g.getD i 0 := by
 constructor
 ·
  intro h i hi h0
  rw [getD_of hi, getD_of (show i - 1 < g.length by omega)]
  exact List.pairwise_iff_getElem.1 h (i - 1) i (by omega) hi (by omega)
 ·
  intro h
  have key : ∀ j i, j < g.length → i < j → g.getD i 0 < g.getD j 0 := by
   intro j
   induction j with
   | zero => intro i _ hi; omega
   | succ j ih =>
    intro i hj hij
    have h1 := h (j + 1) hj (by omega)
    simp only [Nat.add_sub_cancel] at h1
    by_cases e : i = j
    ·
     subst e; exact h1
    ·
     have := ih i (by omega) (by omega); omega
  rw [List.pairwise_iff_getElem]
  intro i j hi hj hij
  have := key j i hj hij
  rwa [getD_of hi, getD_of hj] at this
theorem isGroup_is (n : Nat) (g : List Int) (k : Nat) (hn : n < 9223372036854775807) (hl : g.length ≤ 9223372036854775807) (hk : g.length < k) : impl_isGroup.f k (n : Int) g = some (decide (isGroupN n g)) := by
 unfold impl_isGroup.f
 obtain ⟨b, hb, hb'⟩ := isGroup_loop n g (by omega) (by omega) hl g.length k 0 (by omega) (by omega) hk
 rw [show ((0 : Nat) : Int) = 0 from rfl] at hb
 rw [hb]
 congr 1
 rw [Bool.eq_iff_iff, hb', decide_eq_true_iff]
 unfold isGroupN
 rw [pairwise_adj]
 constructor
 ·
  intro h
  refine ⟨fun x hx => ?_, fun i hi h0 => (h i hi (by omega)).2 h0⟩
  obtain ⟨i, hi, rfl⟩ := List.mem_iff_getElem.1 hx
  have := (h i hi (by omega)).1
  rwa [getD_of hi] at this
 ·
  rintro ⟨h1, h2⟩ i hi _
  rw [getD_of hi]
  refine ⟨h1 _ (List.getElem_mem hi), fun h0 => ?_⟩
  have := h2 i hi h0
  rwa [getD_of hi] at this

end Go.Proofs.Ytdahdeohmbadhaa.Bits

namespace Go.Proofs.Ytdahdeohmbadhaa.Valid
open Go.RowKit Go.Proofs.YtdahdeohmbadhaaW.PrintWords Go.Proofs.YtdahdeohmbadhaaW.PrintMore Go.Proofs.Ytdahdeohmbadhaa.G Go.Proofs.Ytdahdeohmbadhaa.Fam Go.Proofs.Ytdahdeohmbadhaa.Bits Go.Proofs.Ytdahdeohmbadhaa.Loops
set_option linter.unusedVariables false

/-- Two groups, in order, none of which has all holders of the other one. -/
def Apart2 (a b : List Int) : Prop := cmpL a b < 0 ∧ ¬ (bitsN a &&& bitsN b = bitsN b) ∧ ¬ (bitsN b &&& bitsN a = bitsN a)
instance (a b : List Int) : Decidable (Apart2 a b) := by unfold Apart2; exact inferInstance
def ValidF (n : Int) (gs : List (List Int)) : Prop := (1 ≤ n ∧ n ≤ 7) ∧ (∀ g ∈ gs, isGroupN n.toNat g) ∧ gs.Pairwise Apart2
instance (n : Int) (gs : List (List Int)) : Decidable (ValidF n gs) := by unfold ValidF; exact inferInstance

theorem rdL (xs : List (List Int)) (n : Nat) : rd_L1 xs (n : Int) = xs.getD n [] := by simp [rd_L1]
theorem getDg {gs : List (List Int)} {i : Nat} (hi : i < gs.length) : gs.getD i [] = gs[i] := by simp [List.getD, List.getElem?_eq_getElem hi]

theorem small_of {n : Nat} (hn : n ≤ 7) {g : List Int} (h : isGroupN n g) : ∀ x ∈ g, 0 ≤ x ∧ x < 7 := fun x hx => by have := h.1 x hx; omega
theorem bits128 {g : List Int} (h : ∀ x ∈ g, 0 ≤ x ∧ x < 7) : bitsN g < 128 := by have := bitsN_lt (n := 7) (g := g) h; simpa using this

/-- What is asked of group number j. -/
def GoodAt (n : Nat) (gs : List (List Int)) (j : Nat) : Prop :=
 isGroupN n (gs.getD j []) ∧ (0 < j → cmpL (gs.getD (j - 1) []) (gs.getD j []) < 0) ∧ ∀ m, m < j → ¬ (bitsN (gs.getD m []) &&& bitsN (gs.getD j []) = bitsN (gs.getD j [])) ∧ ¬ (bitsN (gs.getD j []) &&& bitsN (gs.getD m []) = bitsN (gs.getD m []))

/-- The loop over the groups ahead of group i. -/
theorem inner_loop (n : Nat) (hn : n ≤ 7) (gs : List (List Int)) (hl : gs.length ≤ 9223372036854775807) (i : Nat) (hi : i < gs.length) (hg : ∀ m, m ≤ i → isGroupN n (gs.getD m [])) (hgl : ∀ g ∈ gs, g.length ≤ 9223372036854775807) (b : Bool)
  (hnext : Ev (fun k => impl_ValidFamily.l0 k gs (gs.length : Int) (wrap64 ((i : Int) + 1)) (n : Int) gs) b) :
  ∀ (d m : Nat), m ≤ i → i - m = d →
  Ev (fun k => impl_ValidFamily.l1 k (gs.getD i []) gs (gs.length : Int) (i : Int) (gs.take i) ((gs.take i).length : Int) (m : Int) (n : Int) gs)
   (b && decide (∀ j, j < i → m ≤ j → ¬ (bitsN (gs.getD j []) &&& bitsN (gs.getD i []) = bitsN (gs.getD i [])) ∧ ¬ (bitsN (gs.getD i []) &&& bitsN (gs.getD j []) = bitsN (gs.getD j [])))) := by
 have htl : (gs.take i).length = i := by rw [List.length_take]; omega
 intro d
 induction d with
 | zero =>
  intro m hm hd
  obtain rfl : m = i := by omega
  refine Ev.step (fun k => by simp only [impl_ValidFamily.l1]; rw [if_neg (by omega)]) ?_
  rw [show decide _ = true from decide_eq_true (fun j h1 h2 => by omega), Bool.and_true]
  exact hnext
 | succ d ih =>
  intro m hm hd
  have hlt : m < i := by omega
  have hm' : (gs.take i).getD m [] = gs.getD m [] := by simp [List.getD, List.getElem?_take_of_lt hlt]
  have s1 := small_of hn (hg m (by omega))
  have s2 := small_of hn (hg i (Nat.le_refl _))
  have l1 : (gs.getD m []).length ≤ 9223372036854775807 := by rw [getDg (by omega)]; exact hgl _ (List.getElem_mem _)
  have l2 : (gs.getD i []).length ≤ 9223372036854775807 := by rw [getDg (by omega)]; exact hgl _ (List.getElem_mem _)
  refine Ev.step (f := fun k => (impl_crowdOf.f k (gs.getD m [])).bind fun t121 => (impl_crowdOf.f k (gs.getD i [])).bind fun t122 => (impl_crowd_contains.f t121 t122).bind fun t123 => if t123 = true then some false else (impl_crowd_contains.f t122 t121).bind fun t124 => if t124 = true then some false else impl_ValidFamily.l1 k (gs.getD i []) gs (gs.length : Int) (i : Int) (gs.take i) ((gs.take i).length : Int) (wrap64 ((m : Int) + 1)) (n : Int) gs)
   (fun k => by simp only [impl_ValidFamily.l1]; rw [if_pos (by omega), if_pos (by omega), if_pos (by omega), rdL, hm']) ?_
  refine Ev.bind (a := ((bitsN (gs.getD m []) : Nat) : Int)) ⟨(gs.getD m []).length + 1, fun k hk => crowdOf_is _ k l1 s1 (by omega)⟩ ?_
  refine Ev.bind (a := ((bitsN (gs.getD i []) : Nat) : Int)) ⟨(gs.getD i []).length + 1, fun k hk => crowdOf_is _ k l2 s2 (by omega)⟩ ?_
  rw [contains_is (bits128 s1) (bits128 s2), contains_is (bits128 s2) (bits128 s1)]
  simp only [Option.bind_some, decide_eq_true_eq]
  by_cases h1 : bitsN (gs.getD m []) &&& bitsN (gs.getD i []) = bitsN (gs.getD i [])
  ·
   rw [show decide _ = false from decide_eq_false (fun h => (h m hlt (Nat.le_refl _)).1 h1), Bool.and_false]
   exact ⟨0, fun k _ => if_pos h1⟩
  ·
   by_cases h2 : bitsN (gs.getD i []) &&& bitsN (gs.getD m []) = bitsN (gs.getD m [])
   ·
    rw [show decide _ = false from decide_eq_false (fun h => (h m hlt (Nat.le_refl _)).2 h2), Bool.and_false]
    exact ⟨0, fun k _ => by simp only [if_neg h1, if_pos h2]⟩
   ·
    have := ih (m + 1) (by omega) (by omega)
    rw [show ((m + 1 : Nat) : Int) = wrap64 ((m : Int) + 1) from by rw [wrap_id (by omega) (by omega)]; omega] at this
    rw [show decide (∀ j, j < i → m ≤ j → ¬ (bitsN (gs.getD j []) &&& bitsN (gs.getD i []) = bitsN (gs.getD i [])) ∧ ¬ (bitsN (gs.getD i []) &&& bitsN (gs.getD j []) = bitsN (gs.getD j []))) = decide (∀ j, j < i → m + 1 ≤ j → ¬ (bitsN (gs.getD j []) &&& bitsN (gs.getD i []) = bitsN (gs.getD i [])) ∧ ¬ (bitsN (gs.getD i []) &&& bitsN (gs.getD j []) = bitsN (gs.getD j []))) from decide_eq_decide.2 ⟨fun h j hji hj => h j hji (by omega), fun h j hji hj => by
     by_cases e : j = m
     ·
      subst e; exact ⟨h1, h2⟩
     ·
      exact h j hji (by omega)⟩]
    exact this.congr (fun k => by simp only [if_neg h1, if_neg h2])

theorem outer_loop (n : Nat) (hn : n ≤ 7) (gs : List (List Int)) (hl : gs.length ≤ 9223372036854775807) (hgl : ∀ g ∈ gs, g.length ≤ 9223372036854775807) :
  ∀ (d i : Nat), i ≤ gs.length → gs.length - i = d → (∀ m, m < i → isGroupN n (gs.getD m [])) →
  ∃ b, Ev (fun k => impl_ValidFamily.l0 k gs (gs.length : Int) (i : Int) (n : Int) gs) b ∧ (b = true ↔ ∀ j, i ≤ j → j < gs.length → GoodAt n gs j) := by
 intro d
 induction d with
 | zero =>
  intro i hi hd hg
  obtain rfl : i = gs.length := by omega
  refine ⟨true, Ev.step (fun k => by simp only [impl_ValidFamily.l0]; rw [if_neg (by omega)]) (Ev.now true), ?_⟩
  simp only [true_iff]
  intro j h1 h2
  omega
 | succ d ih =>
  intro i hi hd hg
  have hlt : i < gs.length := by omega
  have l2 : (gs.getD i []).length ≤ 9223372036854775807 := by rw [getDg (by omega)]; exact hgl _ (List.getElem_mem _)
  have hE1 : Ev (fun k => impl_isGroup.f k (n : Int) (gs.getD i [])) (decide (isGroupN n (gs.getD i []))) := ⟨(gs.getD i []).length + 1, fun k hk => isGroup_is n _ k (by omega) l2 (by omega)⟩
  by_cases h1 : isGroupN n (gs.getD i [])
  ·
   obtain ⟨b, hb, hb'⟩ := ih (i + 1) (by omega) (by omega) (fun m hm => by
    by_cases e : m = i
    ·
     subst e; exact h1
    ·
     exact hg m (by omega))
   rw [show ((i + 1 : Nat) : Int) = wrap64 ((i : Int) + 1) from by rw [wrap_id (by omega) (by omega)]; omega] at hb
   have hin := inner_loop n hn gs hl i hlt (fun m hm => by
    by_cases e : m = i
    ·
     subst e; exact h1
    ·
     exact hg m (by omega)) hgl b hb i 0 (by omega) (by omega)
   have hj1 : Ev (fun k => impl_ValidFamily.j1 k (i : Int) (gs.getD i []) gs (gs.length : Int) (i : Int) false (n : Int) gs) _ :=
    Ev.step (f := fun k => impl_ValidFamily.l1 k (gs.getD i []) gs (gs.length : Int) (i : Int) (gs.take i) ((gs.take i).length : Int) ((0 : Nat) : Int) (n : Int) gs) (fun k => by
     simp only [impl_ValidFamily.j1]
     rw [if_neg (by simp), if_pos (by omega), if_pos (by omega)]
     rfl) hin
   by_cases h0 : 0 < i
   ·
    have l3 : (gs.getD (i - 1) []).length ≤ 9223372036854775807 := by rw [getDg (by omega)]; exact hgl _ (List.getElem_mem _)
    have hE2 : Ev (fun k => slices_Compare_int64_int64.f k (gs.getD (i - 1) []) (gs.getD i [])) (cmpL (gs.getD (i - 1) []) (gs.getD i [])) := ⟨(gs.getD (i - 1) []).length + 1, fun k hk => compare_is _ _ k l3 (by omega)⟩
    have hp : wrap64 ((i : Int) - 1) = ((i - 1 : Nat) : Int) := by rw [wrap_id (by omega) (by omega)]; omega
    have step : ∀ k, impl_ValidFamily.l0 (k + 1) gs (gs.length : Int) (i : Int) (n : Int) gs = (impl_isGroup.f k (n : Int) (gs.getD i [])).bind fun t113 => if t113 = true then (slices_Compare_int64_int64.f k (gs.getD (i - 1) []) (gs.getD i [])).bind fun t115 => impl_ValidFamily.j1 k (i : Int) (gs.getD i []) gs (gs.length : Int) (i : Int) (decide (t115 ≥ 0)) (n : Int) gs else impl_ValidFamily.j1 k (i : Int) (gs.getD i []) gs (gs.length : Int) (i : Int) true (n : Int) gs := fun k => by
     simp only [impl_ValidFamily.l0]
     rw [if_pos (by omega), if_pos (by omega), if_pos (by omega), rdL, hp, rdL]
     congr 1
     funext t
     rw [if_pos (show (i : Int) > 0 by omega), if_pos (show (0 : Int) ≤ ((i - 1 : Nat) : Int) by omega), if_pos (show ((i - 1 : Nat) : Int) < (gs.length : Int) by omega)]
    by_cases hc : cmpL (gs.getD (i - 1) []) (gs.getD i []) < 0
    ·
     refine ⟨b && decide (∀ j, j < i → 0 ≤ j → ¬ (bitsN (gs.getD j []) &&& bitsN (gs.getD i []) = bitsN (gs.getD i [])) ∧ ¬ (bitsN (gs.getD i []) &&& bitsN (gs.getD j []) = bitsN (gs.getD j []))), Ev.step step (Ev.bind hE1 ?_), ?_⟩
     ·
      rw [decide_eq_true h1]
      simp only [if_true]
      refine Ev.bind hE2 ?_
      rw [show decide (cmpL (gs.getD (i - 1) []) (gs.getD i []) ≥ 0) = false from decide_eq_false (by omega)]
      exact hj1
     ·
      rw [Bool.and_eq_true, hb', decide_eq_true_iff]
      constructor
      ·
       rintro ⟨h2, h3⟩ j hj hjl
       by_cases e : j = i
       ·
        subst e; exact ⟨h1, fun _ => hc, fun m hm => h3 m hm (by omega)⟩
       ·
        exact h2 j (by omega) hjl
      ·
       intro h2
       exact ⟨fun j hj hjl => h2 j (by omega) hjl, fun j hj _ => (h2 i (Nat.le_refl _) hlt).2.2 j hj⟩
    ·
     refine ⟨false, Ev.step step (Ev.bind hE1 ?_), ?_⟩
     ·
      rw [decide_eq_true h1]
      simp only [if_true]
      refine Ev.bind hE2 ?_
      rw [show decide (cmpL (gs.getD (i - 1) []) (gs.getD i []) ≥ 0) = true from decide_eq_true (by omega)]
      exact Ev.step (fun k => by simp only [impl_ValidFamily.j1]; rw [if_pos trivial]) (Ev.now false)
     ·
      simp only [Bool.false_eq_true, false_iff]
      intro h
      exact hc ((h i (Nat.le_refl _) hlt).2.1 h0)
   ·
    have step : ∀ k, impl_ValidFamily.l0 (k + 1) gs (gs.length : Int) (i : Int) (n : Int) gs = (impl_isGroup.f k (n : Int) (gs.getD i [])).bind fun t113 => if t113 = true then impl_ValidFamily.j1 k (i : Int) (gs.getD i []) gs (gs.length : Int) (i : Int) false (n : Int) gs else impl_ValidFamily.j1 k (i : Int) (gs.getD i []) gs (gs.length : Int) (i : Int) true (n : Int) gs := fun k => by
     simp only [impl_ValidFamily.l0]
     rw [if_pos (by omega), if_pos (by omega), if_pos (by omega), rdL]
     congr 1
     funext t
     rw [if_neg (show ¬ (i : Int) > 0 by omega)]
    refine ⟨b && decide (∀ j, j < i → 0 ≤ j → ¬ (bitsN (gs.getD j []) &&& bitsN (gs.getD i []) = bitsN (gs.getD i [])) ∧ ¬ (bitsN (gs.getD i []) &&& bitsN (gs.getD j []) = bitsN (gs.getD j []))), Ev.step step (Ev.bind hE1 ?_), ?_⟩
    ·
     rw [decide_eq_true h1]
     simp only [if_true]
     exact hj1
    ·
     rw [Bool.and_eq_true, hb', decide_eq_true_iff]
     constructor
     ·
      rintro ⟨h2, h3⟩ j hj hjl
      by_cases e : j = i
      ·
       subst e; exact ⟨h1, fun h => absurd h h0, fun m hm => h3 m hm (by omega)⟩
      ·
       exact h2 j (by omega) hjl
     ·
      intro h2
      exact ⟨fun j hj hjl => h2 j (by omega) hjl, fun j hj _ => (h2 i (Nat.le_refl _) hlt).2.2 j hj⟩
  ·
   refine ⟨false, Ev.step (f := fun k => (impl_isGroup.f k (n : Int) (gs.getD i [])).bind fun t113 => if t113 = true then (if (i : Int) > 0 then (if 0 ≤ (wrap64 ((i : Int) - 1)) then (if (wrap64 ((i : Int) - 1)) < (gs.length : Int) then ((slices_Compare_int64_int64.f k (rd_L1 gs (wrap64 ((i : Int) - 1))) (gs.getD i [])).bind fun t115 => (impl_ValidFamily.j1 k (i : Int) (gs.getD i []) gs (gs.length : Int) (i : Int) (decide (t115 ≥ 0)) (n : Int) gs)) else (none)) else (none)) else (impl_ValidFamily.j1 k (i : Int) (gs.getD i []) gs (gs.length : Int) (i : Int) false (n : Int) gs)) else impl_ValidFamily.j1 k (i : Int) (gs.getD i []) gs (gs.length : Int) (i : Int) true (n : Int) gs)
    (fun k => by simp only [impl_ValidFamily.l0]; rw [if_pos (by omega), if_pos (by omega), if_pos (by omega), rdL]) (Ev.bind hE1 ?_), ?_⟩
   ·
    rw [decide_eq_false h1]
    simp only [Bool.false_eq_true, if_false]
    exact Ev.step (fun k => by simp only [impl_ValidFamily.j1]; rw [if_pos trivial]) (Ev.now false)
   ·
    simp only [Bool.false_eq_true, false_iff]
    intro h
    exact h1 (h i (Nat.le_refl _) hlt).1

theorem goods {n : Nat} {gs : List (List Int)} : (∀ j, 0 ≤ j → j < gs.length → GoodAt n gs j) ↔ (∀ g ∈ gs, isGroupN n g) ∧ gs.Pairwise Apart2 := by
 constructor
 ·
  intro h
  have hadj : ∀ j i, j < gs.length → i < j → cmpL (gs.getD i []) (gs.getD j []) < 0 := by
   intro j
   induction j with
   | zero => intro i _ hi; omega
   | succ j ih =>
    intro i hj hij
    have h1 := (h (j + 1) (by omega) hj).2.1 (by omega)
    simp only [Nat.add_sub_cancel] at h1
    by_cases e : i = j
    ·
     subst e; exact h1
    ·
     exact cmpL_trans _ _ _ (ih i (by omega) (by omega)) h1
  refine ⟨fun g hg => ?_, ?_⟩
  ·
   obtain ⟨i, hi, rfl⟩ := List.mem_iff_getElem.1 hg
   have := (h i (by omega) hi).1
   rwa [getDg hi] at this
  ·
   rw [List.pairwise_iff_getElem]
   intro i j hi hj hij
   have h1 := hadj j i hj hij
   have h2 := (h j (by omega) hj).2.2 i hij
   rw [getDg hi, getDg hj] at *
   exact ⟨h1, h2⟩
 ·
  rintro ⟨h1, h2⟩ j _ hj
  rw [List.pairwise_iff_getElem] at h2
  refine ⟨by rw [getDg hj]; exact h1 _ (List.getElem_mem hj), fun h0 => ?_, fun m hm => ?_⟩
  ·
   rw [getDg hj, getDg (show j - 1 < gs.length by omega)]
   exact (h2 (j - 1) j (by omega) hj (by omega)).1
  ·
   rw [getDg hj, getDg (show m < gs.length by omega)]
   exact (h2 m j (by omega) hj hm).2

theorem valid_is (n : Int) (gs : List (List Int)) (hl : gs.length ≤ 9223372036854775807) (hgl : ∀ g ∈ gs, g.length ≤ 9223372036854775807) : Ev (fun k => impl_ValidFamily.f k n gs) (decide (ValidF n gs)) := by
 unfold impl_ValidFamily.f
 rw [within_is]
 simp only [Option.bind_some, decide_eq_true_eq]
 by_cases h : 1 ≤ n ∧ n ≤ 7
 ·
  obtain ⟨b, hb, hb'⟩ := outer_loop n.toNat (by omega) gs hl hgl gs.length 0 (by omega) (by omega) (fun m hm => by omega)
  rw [show ((n.toNat : Nat) : Int) = n by omega] at hb
  have : b = decide (ValidF n gs) := by
   rw [Bool.eq_iff_iff, hb', goods, decide_eq_true_iff]
   unfold ValidF
   exact ⟨fun h2 => ⟨h, h2⟩, fun h2 => h2.2⟩
  rw [← this]
  exact hb.congr (fun k => by simp only [if_pos h]; rfl)
 ·
  rw [show decide (ValidF n gs) = false from decide_eq_false (fun h2 => h h2.1)]
  exact ⟨0, fun k _ => by simp only [if_neg h]⟩

end Go.Proofs.Ytdahdeohmbadhaa.Valid

namespace Go.Proofs.Ytdahdeohmbadhaa.Sorted
open Go.RowKit Go.Lib Go.Proofs Go.Proofs.YtdahdeohmbadhaaW.PrintWords Go.Proofs.YtdahdeohmbadhaaW.PrintWords.Kd Go.Proofs.YtdahdeohmbadhaaW.PrintLast Go.Proofs.YtdahdeohmbadhaaW.PrintMore Go.Proofs.Ytdahdeohmbadhaa.G Go.Proofs.Ytdahdeohmbadhaa.Fam Go.Proofs.Ytdahdeohmbadhaa.Loops Go.Proofs.Ytdahdeohmbadhaa.Bits
set_option linter.unusedVariables false
set_option linter.unusedSimpArgs false

theorem before_loop (a b : List Int) (ha : a.length ≤ 9223372036854775807) : ∀ (d n : Nat), n ≤ a.length → n ≤ b.length → a.length - n = d →
  Ev (fun k => spec_l01Before.l0 k a b (n : Int)) (decide (cmpL (a.drop n) (b.drop n) < 0)) := by
 intro d
 induction d with
 | zero =>
  intro n hn hnb hd
  obtain rfl : n = a.length := by omega
  refine Ev.step (f := fun k => spec_l01Before.j1 k a b (a.length : Int) false) (fun k => by simp only [spec_l01Before.l0]; rw [if_neg (by omega)]) ?_
  refine Ev.step (f := fun _ => some (decide ((a.length : Int) < (b.length : Int)))) (fun k => by simp only [spec_l01Before.j1]; rw [if_neg (by simp)]) ?_
  rw [List.drop_length]
  rw [show decide (cmpL [] (b.drop a.length) < 0) = decide ((a.length : Int) < (b.length : Int)) from decide_eq_decide.2 (by
   by_cases h : a.length < b.length
   ·
    rw [List.drop_eq_getElem_cons h]; simp [cmpL]; omega
   ·
    rw [List.drop_eq_nil_of_le (by omega)]; simp [cmpL]; omega)]
  exact Ev.now _
 | succ d ih =>
  intro n hn hnb hd
  have hlt : n < a.length := by omega
  refine Ev.step (f := fun k => spec_l01Before.j1 k a b (n : Int) (decide ((n : Int) < (b.length : Int)))) (fun k => by simp only [spec_l01Before.l0]; rw [if_pos (by omega)]) ?_
  by_cases h : n < b.length
  ·
   rw [decide_eq_true (show (n : Int) < (b.length : Int) by omega)]
   refine Ev.step (f := fun k => if a[n] = b[n] then spec_l01Before.l0 k a b ((n + 1 : Nat) : Int) else some (decide (a[n] < b[n]))) (fun k => by
    simp only [spec_l01Before.j1]
    rw [if_pos trivial, if_pos (by omega), if_pos (by omega), if_pos (by omega), rd_nat, rd_nat, getD_of hlt, getD_of h, wrap_id (by omega) (by omega)]
    rfl) ?_
   rw [List.drop_eq_getElem_cons hlt, List.drop_eq_getElem_cons h]
   by_cases e : a[n] = b[n]
   ·
    have hc : cmpL (a[n] :: a.drop (n + 1)) (b[n] :: b.drop (n + 1)) = cmpL (a.drop (n + 1)) (b.drop (n + 1)) := by
     simp only [cmpL]; rw [if_neg (by omega), if_neg (by omega)]
    rw [hc]
    exact (ih (n + 1) (by omega) (by omega) (by omega)).congr (fun k => by simp only [if_pos e])
   ·
    have hc : (cmpL (a[n] :: a.drop (n + 1)) (b[n] :: b.drop (n + 1)) < 0) ↔ (a[n] < b[n]) := by
     simp only [cmpL]
     by_cases h1 : a[n] < b[n]
     ·
      rw [if_pos h1]; simp [h1]
     ·
      rw [if_neg h1, if_pos (by omega)]; simp [h1]
    have hc' : decide (cmpL (a[n] :: a.drop (n + 1)) (b[n] :: b.drop (n + 1)) < 0) = decide (a[n] < b[n]) := decide_eq_decide.2 hc
    rw [hc']
    exact ⟨0, fun k _ => by simp only [if_neg e]⟩
  ·
   rw [decide_eq_false (show ¬ (n : Int) < (b.length : Int) by omega)]
   refine Ev.step (f := fun _ => some (decide ((a.length : Int) < (b.length : Int)))) (fun k => by simp only [spec_l01Before.j1]; rw [if_neg (by simp)]) ?_
   rw [List.drop_eq_nil_of_le (show b.length ≤ n by omega), List.drop_eq_getElem_cons hlt]
   rw [show decide (cmpL (a[n] :: a.drop (n + 1)) [] < 0) = decide ((a.length : Int) < (b.length : Int)) from decide_eq_decide.2 (by simp [cmpL]; omega)]
   exact Ev.now _
theorem before_is (a b : List Int) (ha : a.length ≤ 9223372036854775807) : Ev (fun k => spec_l01Before.f k a b) (decide (cmpL a b < 0)) := by
 have := before_loop a b ha a.length 0 (by omega) (by omega) rfl
 rw [List.drop_zero, List.drop_zero] at this
 exact this
theorem before_calls (A A' : Option Addr) (c c' : Nat) (a b : List Int) (W : World) (ha : Kd.C (Kd.int .i64) W A a.length a) (hac : a.length ≤ c) (hb : Kd.C (Kd.int .i64) W A' b.length b) (hbc : b.length ≤ c') :
  Calls Try.prog 187 #[.slice A a.length c, .slice A' b.length c'] W fun e w' => e = .returned (.bool (decide (cmpL a b < 0))) ∧ ∃ q, w' = W.drewN q := by
 obtain ⟨k, hk⟩ := (before_is a b ha.2.1).rounds
 exact (spec_l01Before.calls k A c a A' c' b _ W ha hac hb hbc hk).mono fun e w' ⟨he, hd⟩ => ⟨he, hd.out⟩
end Go.Proofs.Ytdahdeohmbadhaa.Sorted

namespace Go.Proofs.Ytdahdeohmbadhaa.Ref
open Go.RowKit Go.Proofs.YtdahdeohmbadhaaW.PrintWords Go.Proofs.YtdahdeohmbadhaaW.PrintMore Go.Proofs.Ytdahdeohmbadhaa.G Go.Proofs.Ytdahdeohmbadhaa.Fam Go.Proofs.Ytdahdeohmbadhaa.Loops Go.Proofs.Ytdahdeohmbadhaa.Bits Go.Proofs.Ytdahdeohmbadhaa.Valid
set_option linter.unusedVariables false
set_option maxRecDepth 100000

/-! ### groups as numbers -/
theorem and64_all : ∀ a : Fin 128, ∀ b : Fin 128, Go.bits .and .i64 ((a.val : Nat) : Int) ((b.val : Nat) : Int) = ((a.val &&& b.val : Nat) : Int) := by decide +kernel
theorem and64 {a b : Nat} (ha : a < 128) (hb : b < 128) : Go.bits .and .i64 (a : Int) (b : Int) = ((a &&& b : Nat) : Int) := and64_all ⟨a, ha⟩ ⟨b, hb⟩
theorem or64_all : ∀ c : Fin 128, ∀ h : Fin 7, Go.bits .or .i64 ((c.val : Nat) : Int) (shl .i64 1 ((h.val : Nat) : Int)) = ((c.val ||| 1 <<< h.val : Nat) : Int) := by decide +kernel
theorem or64 {c h : Nat} (hc : c < 128) (hh : h < 7) : Go.bits .or .i64 (c : Int) (shl .i64 1 (h : Int)) = ((c ||| 1 <<< h : Nat) : Int) := or64_all ⟨c, hc⟩ ⟨h, hh⟩
theorem u64_small {x : Int} (h0 : 0 ≤ x) (h : x < 18446744073709551616) : IntKind.u64.wrap x = x := by
 have : IntKind.u64.wrap x = x % 18446744073709551616 := rfl
 rw [this]; omega
theorem bits_loop (g : List Int) (hl : g.length ≤ 9223372036854775807) (hg : ∀ x ∈ g, 0 ≤ x ∧ x < 7) : ∀ (d n c : Nat), n ≤ g.length → g.length - n = d → c < 128 →
  Ev (fun k => spec_l01Bits.l0 k g (c : Int) (n : Int)) ((((g.drop n).foldl (fun b h => b ||| 1 <<< h.toNat) c : Nat)) : Int) := by
 intro d
 induction d with
 | zero =>
  intro n c hn hd hc
  obtain rfl : n = g.length := by omega
  refine Ev.step (f := fun _ => some (c : Int)) (fun k => by simp only [spec_l01Bits.l0]; rw [if_neg (by omega)]) ?_
  rw [List.drop_length]
  exact Ev.now _
 | succ d ih =>
  intro n c hn hd hc
  have hlt : n < g.length := by omega
  have hx := hg g[n] (List.getElem_mem hlt)
  obtain ⟨y, hy⟩ : ∃ y : Nat, g[n] = (y : Int) := ⟨g[n].toNat, by omega⟩
  rw [List.drop_eq_getElem_cons hlt, List.foldl_cons, hy]
  have h1 := ih (n + 1) (c ||| 1 <<< y) (by omega) (by omega) (or_lt hc (by omega))
  refine Ev.step (fun k => ?_) h1
  simp only [spec_l01Bits.l0]
  rw [if_pos (by omega), if_pos (by omega), rd_nat]
  simp only [List.getD, List.getElem?_eq_getElem hlt, Option.getD_some]
  rw [hy, u64_small (by omega) (by omega), if_pos (by omega), or64 hc (by omega), wrap_id (by omega) (by omega)]
  rfl
theorem bits_is (g : List Int) (hl : g.length ≤ 9223372036854775807) (hg : ∀ x ∈ g, 0 ≤ x ∧ x < 7) : Ev (fun k => spec_l01Bits.f k g) ((bitsN g : Nat) : Int) := by
 have := bits_loop g hl hg g.length 0 0 (by omega) (by omega) (by omega)
 exact this
theorem bits_lt (g : List Int) (hg : ∀ x ∈ g, 0 ≤ x ∧ x < 7) : bitsN g < 128 := foldl_lt g hg 0 (by omega)
end Go.Proofs.Ytdahdeohmbadhaa.Ref
