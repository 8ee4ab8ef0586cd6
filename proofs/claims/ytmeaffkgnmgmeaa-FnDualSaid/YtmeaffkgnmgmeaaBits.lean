/- What the printed functions on sets compute, as plain numbers. No program in sight. -/
import Derived.Test.YtmeaffkgnmgmeaaGb
import Derived.Test.YtmeaffkgnmgmeaaFam
import Derived.Test.YtmeaffkgnmgmeaaLoops
import Derived.Laws.BitsAllLaws
namespace Go.Proofs.Ytmeaffkgnmgmeaa.Bits
open Go.RowKit Go.Proofs.YtmeaffkgnmgmeaaW.PrintWords Go.Proofs.YtmeaffkgnmgmeaaW.PrintMore Go.Proofs.Ytmeaffkgnmgmeaa.G Go.Proofs.Ytmeaffkgnmgmeaa.Fam Go.Proofs.Ytmeaffkgnmgmeaa.Loops
set_option linter.unusedVariables false
set_option maxRecDepth 100000

theorem more {α : Type} {g : Nat → Option α} (h : ∀ k, LeO (g k) (g (k + 1))) {k k' : Nat} (hk : k ≤ k') {r : α} (hr : g k = some r) : g k' = some r := at_rounds h hk hr

/-! ### sets of at most seven holders: by looking at all of them -/
theorem has_all : ∀ c : Fin 128, ∀ h : Fin 7, impl_crowd_has.f ((c.val : Nat) : Int) ((h.val : Nat) : Int) = some (c.val.testBit h.val) := by decide +kernel
theorem has_is {c h : Nat} (hc : c < 128) (hh : h < 7) : impl_crowd_has.f (c : Int) (h : Int) = some (c.testBit h) := has_all ⟨c, hc⟩ ⟨h, hh⟩
theorem everybody_all : ∀ n : Fin 8, impl_everybody.f ((n.val : Nat) : Int) = some ((2 ^ n.val - 1 : Nat) : Int) := by decide +kernel
theorem everybody_is {n : Nat} (hn : n ≤ 7) : impl_everybody.f (n : Int) = some ((2 ^ n - 1 : Nat) : Int) := everybody_all ⟨n, by omega⟩
theorem group_all : ∀ c : Fin 128, impl_crowd_group.f 9 ((c.val : Nat) : Int) = some (groupN c.val) := by decide +kernel
theorem group_is {c k : Nat} (hc : c < 128) (hk : 9 ≤ k) : impl_crowd_group.f k (c : Int) = some (groupN c) :=
  more (g := fun k => impl_crowd_group.f k (c : Int)) (fun k => impl_crowd_group.mono _ k) hk (group_all ⟨c, hc⟩)
theorem or_all : ∀ c : Fin 128, ∀ h : Fin 7, Go.bits .or .u64 ((c.val : Nat) : Int) (shl .u64 1 ((h.val : Nat) : Int)) = ((c.val ||| 1 <<< h.val : Nat) : Int) := by decide +kernel
theorem or_is {c h : Nat} (hc : c < 128) (hh : h < 7) : Go.bits .or .u64 (c : Int) (shl .u64 1 (h : Int)) = ((c ||| 1 <<< h : Nat) : Int) := or_all ⟨c, hc⟩ ⟨h, hh⟩
theorem or_lt {c h : Nat} (hc : c < 128) (hh : h < 7) : c ||| 1 <<< h < 128 := by
  refine Nat.or_lt_two_pow (n := 7) hc ?_
  rw [Nat.one_shiftLeft]
  exact Nat.pow_lt_pow_right (by omega) hh
theorem contains_is {a b : Nat} (ha : a < 128) (hb : b < 128) : impl_crowd_contains.f (a : Int) (b : Int) = some (decide (a &&& b = b)) := by
  unfold impl_crowd_contains.f
  rw [u64_and_nat a b (by omega) (by omega)]
  congr 1
  rw [Bool.eq_iff_iff, beq_iff_eq, decide_eq_true_iff]
  omega

/-! ### lists -/
theorem within_is (a b c : Int) : impl_within.f a b c = some (decide (b ≤ a ∧ a ≤ c)) := by
  unfold impl_within.f
  by_cases h : a ≥ b
  · rw [if_pos h]; congr 1; apply decide_eq_decide.2; omega
  · rw [if_neg h]; congr 1; symm; apply decide_eq_false; omega
theorem compare_int (a b : Int) : cmp_Compare_int64.f a b = some (if a < b then -1 else if b < a then 1 else 0) := by
  unfold cmp_Compare_int64.f cmp_isNaN_int64.f
  simp only [Option.bind_some, bne_self_eq_false, Bool.false_eq_true, if_false]
  by_cases h1 : a < b
  · simp [h1]
  · by_cases h2 : b < a <;> simp [h1, h2]
theorem compare_loop (a b : List Int) (ha : a.length ≤ 9223372036854775807) : ∀ (d k n : Nat), n ≤ a.length → n ≤ b.length → a.length - n = d → d < k →
    a.take n = b.take n → slices_Compare_int64_int64.l0 k a b a (a.length : Int) (n : Int) = some (cmpL (a.drop n) (b.drop n)) := by
  intro d
  induction d with
  | zero =>
    intro k n hn hnb hd hk ht
    obtain ⟨k, rfl⟩ : ∃ m, k = m + 1 := ⟨k - 1, by omega⟩
    obtain rfl : n = a.length := by omega
    simp only [slices_Compare_int64_int64.l0]
    rw [if_neg (by omega), List.drop_length]
    by_cases h : a.length < b.length
    · rw [if_pos (by omega), List.drop_eq_getElem_cons h]
      rfl
    · rw [if_neg (by omega), List.drop_eq_nil_of_le (by omega)]
      rfl
  | succ d ih =>
    intro k n hn hnb hd hk ht
    obtain ⟨k, rfl⟩ : ∃ m, k = m + 1 := ⟨k - 1, by omega⟩
    have hlt : n < a.length := by omega
    simp only [slices_Compare_int64_int64.l0]
    rw [if_pos (by omega), if_pos (by omega), if_pos (by omega), List.drop_eq_getElem_cons hlt]
    by_cases h : n < b.length
    · rw [if_neg (by omega), if_pos (by omega), compare_int, rd_nat, rd_nat, List.drop_eq_getElem_cons h]
      simp only [List.getD, List.getElem?_eq_getElem hlt, List.getElem?_eq_getElem h, Option.getD_some, Option.bind_some, cmpL]
      by_cases h1 : a[n] < b[n]
      · simp [h1]
      · by_cases h2 : b[n] < a[n]
        · simp [h1, h2]
        · simp only [if_neg h1, if_neg h2]
          rw [if_pos trivial, wrap_id (by omega) (by omega)]
          refine ih k (n + 1) (by omega) (by omega) (by omega) (by omega) ?_
          rw [List.take_succ_eq_append_getElem hlt, List.take_succ_eq_append_getElem h, ht, show a[n] = b[n] by omega]
    · rw [if_pos (by omega), List.drop_eq_nil_of_le (show b.length ≤ n by omega)]
      rfl
theorem compare_is (a b : List Int) (k : Nat) (ha : a.length ≤ 9223372036854775807) (hk : a.length < k) : slices_Compare_int64_int64.f k a b = some (cmpL a b) := by
  unfold slices_Compare_int64_int64.f
  exact compare_loop a b ha a.length k 0 (by omega) (by omega) (by omega) hk rfl

theorem foldl_lt (g : List Int) (hg : ∀ x ∈ g, 0 ≤ x ∧ x < 7) : ∀ c, c < 128 → g.foldl (fun b h => b ||| 1 <<< h.toNat) c < 128 := by
  induction g with
  | nil => intro c hc; exact hc
  | cons a g ih =>
    intro c hc
    have := hg a (by simp)
    exact ih (fun x hx => hg x (by simp [hx])) _ (or_lt hc (by omega))
theorem crowdOf_loop (g : List Int) (hl : g.length ≤ 9223372036854775807) (hg : ∀ x ∈ g, 0 ≤ x ∧ x < 7) : ∀ (d k n c : Nat), n ≤ g.length → g.length - n = d → d < k → c < 128 →
    impl_crowdOf.l0 k (c : Int) g (g.length : Int) (n : Int) = some ((((g.drop n).foldl (fun b h => b ||| 1 <<< h.toNat) c : Nat)) : Int) := by
  intro d
  induction d with
  | zero =>
    intro k n c hn hd hk hc
    obtain ⟨k, rfl⟩ : ∃ m, k = m + 1 := ⟨k - 1, by omega⟩
    obtain rfl : n = g.length := by omega
    simp only [impl_crowdOf.l0]
    rw [if_neg (by omega), List.drop_length]
    rfl
  | succ d ih =>
    intro k n c hn hd hk hc
    obtain ⟨k, rfl⟩ : ∃ m, k = m + 1 := ⟨k - 1, by omega⟩
    have hlt : n < g.length := by omega
    have hx := hg g[n] (List.getElem_mem hlt)
    simp only [impl_crowdOf.l0]
    rw [if_pos (by omega), if_pos (by omega), if_pos (by omega), rd_nat]
    simp only [List.getD, List.getElem?_eq_getElem hlt, Option.getD_some]
    rw [if_pos hx.1, wrap_id (by omega) (by omega)]
    obtain ⟨y, hy⟩ : ∃ y : Nat, g[n] = (y : Int) := ⟨g[n].toNat, by omega⟩
    rw [hy, or_is hc (by omega), List.drop_eq_getElem_cons hlt, List.foldl_cons, hy]
    exact ih k (n + 1) _ (by omega) (by omega) (by omega) (by exact or_lt hc (by omega))
theorem crowdOf_is (g : List Int) (k : Nat) (hl : g.length ≤ 9223372036854775807) (hg : ∀ x ∈ g, 0 ≤ x ∧ x < 7) (hk : g.length < k) : impl_crowdOf.f k g = some ((bitsN g : Nat) : Int) := by
  unfold impl_crowdOf.f
  exact crowdOf_loop g hl hg g.length k 0 0 (by omega) (by omega) hk (by omega)

instance (n : Nat) (g : List Int) : Decidable (isGroupN n g) := by unfold isGroupN; exact inferInstance
/-- isGroup, from an index on. -/
theorem isGroup_loop (m : Int) (g : List Int) (hm : 0 ≤ m) (hm2 : m < 9223372036854775807) (hl : g.length ≤ 9223372036854775807) : ∀ (d k n : Nat), n ≤ g.length → g.length - n = d → d < k →
    ∃ b, impl_isGroup.l0 k m g g (g.length : Int) (n : Int) = some b ∧ (b = true ↔ ∀ i, i < g.length → n ≤ i → (0 ≤ g.getD i 0 ∧ g.getD i 0 < m) ∧ (0 < i → g.getD (i - 1) 0 < g.getD i 0)) := by
  intro d
  induction d with
  | zero =>
    intro k n hn hd hk
    obtain ⟨k, rfl⟩ : ∃ j, k = j + 1 := ⟨k - 1, by omega⟩
    refine ⟨true, ?_, ?_⟩
    · simp only [impl_isGroup.l0]; rw [if_neg (by omega)]
    · simp only [true_iff]; intro i hi h; omega
  | succ d ih =>
    intro k n hn hd hk
    obtain ⟨k, rfl⟩ : ∃ j, k = j + 1 := ⟨k - 1, by omega⟩
    have hlt : n < g.length := by omega
    simp only [impl_isGroup.l0]
    rw [if_pos (by omega), if_pos (by omega), if_pos (by omega), rd_nat, within_is, wrap_id (by omega) (by omega)]
    simp only [Option.bind_some, decide_eq_true_eq]
    by_cases h1 : 0 ≤ g.getD n 0 ∧ g.getD n 0 ≤ m - 1
    · rw [if_pos h1]
      obtain ⟨b, hb, hb'⟩ := ih k (n + 1) (by omega) (by omega) (by omega)
      have hnext : ((n : Int) + 1) = ((n + 1 : Nat) : Int) := by omega
      by_cases h2 : (n : Int) > 0
      · rw [if_pos h2, wrap_id (by omega) (by omega), if_pos (by omega), if_pos (by omega)]
        have hprev : ((n : Int) - 1) = ((n - 1 : Nat) : Int) := by omega
        rw [hprev, rd_nat]
        by_cases h3 : g.getD n 0 ≤ g.getD (n - 1) 0
        · rw [if_pos h3]
          refine ⟨false, rfl, ?_⟩
          simp only [Bool.false_eq_true, false_iff]
          intro h
          have := (h n hlt (Nat.le_refl _)).2 (by omega)
          omega
        · rw [if_neg h3, wrap_id (by omega) (by omega), hnext]
          refine ⟨b, hb, hb'.trans ⟨fun h i hi hni => ?_, fun h i hi hni => h i hi (by omega)⟩⟩
          by_cases e : i = n
          · subst e; exact ⟨by omega, fun _ => by omega⟩
          · exact h i hi (by omega)
      · rw [if_neg h2, wrap_id (by omega) (by omega), hnext]
        refine ⟨b, hb, hb'.trans ⟨fun h i hi hni => ?_, fun h i hi hni => h i hi (by omega)⟩⟩
        by_cases e : i = n
        · subst e; exact ⟨by omega, fun _ => by omega⟩
        · exact h i hi (by omega)
    · rw [if_neg h1]
      refine ⟨false, rfl, ?_⟩
      simp only [Bool.false_eq_true, false_iff]
      intro h
      have := (h n hlt (Nat.le_refl _)).1
      omega
theorem getD_of {g : List Int} {i : Nat} (hi : i < g.length) : g.getD i 0 = g[i] := by simp [List.getD, List.getElem?_eq_getElem hi]
theorem pairwise_adj (g : List Int) : g.Pairwise (· < ·) ↔ ∀ i, i < g.length → 0 < i → g.getD (i - 1) 0 < g.getD i 0 := by
  constructor
  · intro h i hi h0
    rw [getD_of hi, getD_of (show i - 1 < g.length by omega)]
    exact List.pairwise_iff_getElem.1 h (i - 1) i (by omega) hi (by omega)
  · intro h
    have key : ∀ j i, j < g.length → i < j → g.getD i 0 < g.getD j 0 := by
      intro j
      induction j with
      | zero => intro i _ hi; omega
      | succ j ih =>
        intro i hj hij
        have h1 := h (j + 1) hj (by omega)
        simp only [Nat.add_sub_cancel] at h1
        by_cases e : i = j
        · subst e; exact h1
        · have := ih i (by omega) (by omega); omega
    rw [List.pairwise_iff_getElem]
    intro i j hi hj hij
    have := key j i hj hij
    rwa [getD_of hi, getD_of hj] at this
theorem isGroup_is (n : Nat) (g : List Int) (k : Nat) (hn : n < 9223372036854775807) (hl : g.length ≤ 9223372036854775807) (hk : g.length < k) : impl_isGroup.f k (n : Int) g = some (decide (isGroupN n g)) := by
  unfold impl_isGroup.f
  obtain ⟨b, hb, hb'⟩ := isGroup_loop n g (by omega) (by omega) hl g.length k 0 (by omega) (by omega) hk
  rw [show ((0 : Nat) : Int) = 0 from rfl] at hb
  rw [hb]
  congr 1
  rw [Bool.eq_iff_iff, hb', decide_eq_true_iff]
  unfold isGroupN
  rw [pairwise_adj]
  constructor
  · intro h
    refine ⟨fun x hx => ?_, fun i hi h0 => (h i hi (by omega)).2 h0⟩
    obtain ⟨i, hi, rfl⟩ := List.mem_iff_getElem.1 hx
    have := (h i hi (by omega)).1
    rwa [getD_of hi] at this
  · rintro ⟨h1, h2⟩ i hi _
    rw [getD_of hi]
    refine ⟨h1 _ (List.getElem_mem hi), fun h0 => ?_⟩
    have := h2 i hi h0
    rwa [getD_of hi] at this

end Go.Proofs.Ytmeaffkgnmgmeaa.Bits
