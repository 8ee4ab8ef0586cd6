/- What ValidFamily tells: a family is valid, as plain Lean says it. No program in sight. -/
import Derived.Test.YtmeaffkgnmgmeaaBits
namespace Go.Proofs.Ytmeaffkgnmgmeaa.Valid
open Go.RowKit Go.Proofs.YtmeaffkgnmgmeaaW.PrintWords Go.Proofs.YtmeaffkgnmgmeaaW.PrintMore Go.Proofs.Ytmeaffkgnmgmeaa.G Go.Proofs.Ytmeaffkgnmgmeaa.Fam Go.Proofs.Ytmeaffkgnmgmeaa.Bits Go.Proofs.Ytmeaffkgnmgmeaa.Loops
set_option linter.unusedVariables false

/-- Two groups, in order, none of which has all holders of the other one. -/
def Apart2 (a b : List Int) : Prop := cmpL a b < 0 ∧ ¬ (bitsN a &&& bitsN b = bitsN b) ∧ ¬ (bitsN b &&& bitsN a = bitsN a)
instance (a b : List Int) : Decidable (Apart2 a b) := by unfold Apart2; exact inferInstance
def ValidF (n : Int) (gs : List (List Int)) : Prop := (1 ≤ n ∧ n ≤ 7) ∧ (∀ g ∈ gs, isGroupN n.toNat g) ∧ gs.Pairwise Apart2
instance (n : Int) (gs : List (List Int)) : Decidable (ValidF n gs) := by unfold ValidF; exact inferInstance

theorem rdL (xs : List (List Int)) (n : Nat) : rd_L1 xs (n : Int) = xs.getD n [] := by simp [rd_L1]
theorem getDg {gs : List (List Int)} {i : Nat} (hi : i < gs.length) : gs.getD i [] = gs[i] := by simp [List.getD, List.getElem?_eq_getElem hi]

theorem small_of {n : Nat} (hn : n ≤ 7) {g : List Int} (h : isGroupN n g) : ∀ x ∈ g, 0 ≤ x ∧ x < 7 := fun x hx => by have := h.1 x hx; omega
theorem bits128 {g : List Int} (h : ∀ x ∈ g, 0 ≤ x ∧ x < 7) : bitsN g < 128 := by have := bitsN_lt (n := 7) (g := g) h; simpa using this

/-- What is asked of group number j. -/
def GoodAt (n : Nat) (gs : List (List Int)) (j : Nat) : Prop :=
  isGroupN n (gs.getD j []) ∧ (0 < j → cmpL (gs.getD (j - 1) []) (gs.getD j []) < 0) ∧ ∀ m, m < j → ¬ (bitsN (gs.getD m []) &&& bitsN (gs.getD j []) = bitsN (gs.getD j [])) ∧ ¬ (bitsN (gs.getD j []) &&& bitsN (gs.getD m []) = bitsN (gs.getD m []))

/-- The loop over the groups ahead of group i. -/
theorem inner_loop (n : Nat) (hn : n ≤ 7) (gs : List (List Int)) (hl : gs.length ≤ 9223372036854775807) (i : Nat) (hi : i < gs.length) (hg : ∀ m, m ≤ i → isGroupN n (gs.getD m [])) (hgl : ∀ g ∈ gs, g.length ≤ 9223372036854775807) (b : Bool)
    (hnext : Ev (fun k => impl_ValidFamily.l0 k gs (gs.length : Int) (wrap64 ((i : Int) + 1)) (n : Int) gs) b) :
    ∀ (d m : Nat), m ≤ i → i - m = d →
    Ev (fun k => impl_ValidFamily.l1 k (gs.getD i []) gs (gs.length : Int) (i : Int) (gs.take i) ((gs.take i).length : Int) (m : Int) (n : Int) gs)
      (b && decide (∀ j, j < i → m ≤ j → ¬ (bitsN (gs.getD j []) &&& bitsN (gs.getD i []) = bitsN (gs.getD i [])) ∧ ¬ (bitsN (gs.getD i []) &&& bitsN (gs.getD j []) = bitsN (gs.getD j [])))) := by
  have htl : (gs.take i).length = i := by rw [List.length_take]; omega
  intro d
  induction d with
  | zero =>
    intro m hm hd
    obtain rfl : m = i := by omega
    refine Ev.step (fun k => by simp only [impl_ValidFamily.l1]; rw [if_neg (by omega)]) ?_
    rw [show decide _ = true from decide_eq_true (fun j h1 h2 => by omega), Bool.and_true]
    exact hnext
  | succ d ih =>
    intro m hm hd
    have hlt : m < i := by omega
    have hm' : (gs.take i).getD m [] = gs.getD m [] := by simp [List.getD, List.getElem?_take_of_lt hlt]
    have s1 := small_of hn (hg m (by omega))
    have s2 := small_of hn (hg i (Nat.le_refl _))
    have l1 : (gs.getD m []).length ≤ 9223372036854775807 := by rw [getDg (by omega)]; exact hgl _ (List.getElem_mem _)
    have l2 : (gs.getD i []).length ≤ 9223372036854775807 := by rw [getDg (by omega)]; exact hgl _ (List.getElem_mem _)
    refine Ev.step (f := fun k => (impl_crowdOf.f k (gs.getD m [])).bind fun t121 => (impl_crowdOf.f k (gs.getD i [])).bind fun t122 => (impl_crowd_contains.f t121 t122).bind fun t123 => if t123 = true then some false else (impl_crowd_contains.f t122 t121).bind fun t124 => if t124 = true then some false else impl_ValidFamily.l1 k (gs.getD i []) gs (gs.length : Int) (i : Int) (gs.take i) ((gs.take i).length : Int) (wrap64 ((m : Int) + 1)) (n : Int) gs)
      (fun k => by simp only [impl_ValidFamily.l1]; rw [if_pos (by omega), if_pos (by omega), if_pos (by omega), rdL, hm']) ?_
    refine Ev.bind (a := ((bitsN (gs.getD m []) : Nat) : Int)) ⟨(gs.getD m []).length + 1, fun k hk => crowdOf_is _ k l1 s1 (by omega)⟩ ?_
    refine Ev.bind (a := ((bitsN (gs.getD i []) : Nat) : Int)) ⟨(gs.getD i []).length + 1, fun k hk => crowdOf_is _ k l2 s2 (by omega)⟩ ?_
    rw [contains_is (bits128 s1) (bits128 s2), contains_is (bits128 s2) (bits128 s1)]
    simp only [Option.bind_some, decide_eq_true_eq]
    by_cases h1 : bitsN (gs.getD m []) &&& bitsN (gs.getD i []) = bitsN (gs.getD i [])
    · rw [show decide _ = false from decide_eq_false (fun h => (h m hlt (Nat.le_refl _)).1 h1), Bool.and_false]
      exact ⟨0, fun k _ => if_pos h1⟩
    · by_cases h2 : bitsN (gs.getD i []) &&& bitsN (gs.getD m []) = bitsN (gs.getD m [])
      · rw [show decide _ = false from decide_eq_false (fun h => (h m hlt (Nat.le_refl _)).2 h2), Bool.and_false]
        exact ⟨0, fun k _ => by simp only [if_neg h1, if_pos h2]⟩
      · have := ih (m + 1) (by omega) (by omega)
        rw [show ((m + 1 : Nat) : Int) = wrap64 ((m : Int) + 1) from by rw [wrap_id (by omega) (by omega)]; omega] at this
        rw [show decide (∀ j, j < i → m ≤ j → ¬ (bitsN (gs.getD j []) &&& bitsN (gs.getD i []) = bitsN (gs.getD i [])) ∧ ¬ (bitsN (gs.getD i []) &&& bitsN (gs.getD j []) = bitsN (gs.getD j []))) = decide (∀ j, j < i → m + 1 ≤ j → ¬ (bitsN (gs.getD j []) &&& bitsN (gs.getD i []) = bitsN (gs.getD i [])) ∧ ¬ (bitsN (gs.getD i []) &&& bitsN (gs.getD j []) = bitsN (gs.getD j []))) from decide_eq_decide.2 ⟨fun h j hji hj => h j hji (by omega), fun h j hji hj => by
          by_cases e : j = m
          · subst e; exact ⟨h1, h2⟩
          · exact h j hji (by omega)⟩]
        exact this.congr (fun k => by simp only [if_neg h1, if_neg h2])

theorem outer_loop (n : Nat) (hn : n ≤ 7) (gs : List (List Int)) (hl : gs.length ≤ 9223372036854775807) (hgl : ∀ g ∈ gs, g.length ≤ 9223372036854775807) :
    ∀ (d i : Nat), i ≤ gs.length → gs.length - i = d → (∀ m, m < i → isGroupN n (gs.getD m [])) →
    ∃ b, Ev (fun k => impl_ValidFamily.l0 k gs (gs.length : Int) (i : Int) (n : Int) gs) b ∧ (b = true ↔ ∀ j, i ≤ j → j < gs.length → GoodAt n gs j) := by
  intro d
  induction d with
  | zero =>
    intro i hi hd hg
    obtain rfl : i = gs.length := by omega
    refine ⟨true, Ev.step (fun k => by simp only [impl_ValidFamily.l0]; rw [if_neg (by omega)]) (Ev.now true), ?_⟩
    simp only [true_iff]
    intro j h1 h2
    omega
  | succ d ih =>
    intro i hi hd hg
    have hlt : i < gs.length := by omega
    have l2 : (gs.getD i []).length ≤ 9223372036854775807 := by rw [getDg (by omega)]; exact hgl _ (List.getElem_mem _)
    have hE1 : Ev (fun k => impl_isGroup.f k (n : Int) (gs.getD i [])) (decide (isGroupN n (gs.getD i []))) := ⟨(gs.getD i []).length + 1, fun k hk => isGroup_is n _ k (by omega) l2 (by omega)⟩
    by_cases h1 : isGroupN n (gs.getD i [])
    · obtain ⟨b, hb, hb'⟩ := ih (i + 1) (by omega) (by omega) (fun m hm => by
        by_cases e : m = i
        · subst e; exact h1
        · exact hg m (by omega))
      rw [show ((i + 1 : Nat) : Int) = wrap64 ((i : Int) + 1) from by rw [wrap_id (by omega) (by omega)]; omega] at hb
      have hin := inner_loop n hn gs hl i hlt (fun m hm => by
        by_cases e : m = i
        · subst e; exact h1
        · exact hg m (by omega)) hgl b hb i 0 (by omega) (by omega)
      have hj1 : Ev (fun k => impl_ValidFamily.j1 k (i : Int) (gs.getD i []) gs (gs.length : Int) (i : Int) false (n : Int) gs) _ :=
        Ev.step (f := fun k => impl_ValidFamily.l1 k (gs.getD i []) gs (gs.length : Int) (i : Int) (gs.take i) ((gs.take i).length : Int) ((0 : Nat) : Int) (n : Int) gs) (fun k => by
          simp only [impl_ValidFamily.j1]
          rw [if_neg (by simp), if_pos (by omega), if_pos (by omega)]
          rfl) hin
      by_cases h0 : 0 < i
      · have l3 : (gs.getD (i - 1) []).length ≤ 9223372036854775807 := by rw [getDg (by omega)]; exact hgl _ (List.getElem_mem _)
        have hE2 : Ev (fun k => slices_Compare_int64_int64.f k (gs.getD (i - 1) []) (gs.getD i [])) (cmpL (gs.getD (i - 1) []) (gs.getD i [])) := ⟨(gs.getD (i - 1) []).length + 1, fun k hk => compare_is _ _ k l3 (by omega)⟩
        have hp : wrap64 ((i : Int) - 1) = ((i - 1 : Nat) : Int) := by rw [wrap_id (by omega) (by omega)]; omega
        have step : ∀ k, impl_ValidFamily.l0 (k + 1) gs (gs.length : Int) (i : Int) (n : Int) gs = (impl_isGroup.f k (n : Int) (gs.getD i [])).bind fun t113 => if t113 = true then (slices_Compare_int64_int64.f k (gs.getD (i - 1) []) (gs.getD i [])).bind fun t115 => impl_ValidFamily.j1 k (i : Int) (gs.getD i []) gs (gs.length : Int) (i : Int) (decide (t115 ≥ 0)) (n : Int) gs else impl_ValidFamily.j1 k (i : Int) (gs.getD i []) gs (gs.length : Int) (i : Int) true (n : Int) gs := fun k => by
          simp only [impl_ValidFamily.l0]
          rw [if_pos (by omega), if_pos (by omega), if_pos (by omega), rdL, hp, rdL]
          congr 1
          funext t
          rw [if_pos (show (i : Int) > 0 by omega), if_pos (show (0 : Int) ≤ ((i - 1 : Nat) : Int) by omega), if_pos (show ((i - 1 : Nat) : Int) < (gs.length : Int) by omega)]
        by_cases hc : cmpL (gs.getD (i - 1) []) (gs.getD i []) < 0
        · refine ⟨b && decide (∀ j, j < i → 0 ≤ j → ¬ (bitsN (gs.getD j []) &&& bitsN (gs.getD i []) = bitsN (gs.getD i [])) ∧ ¬ (bitsN (gs.getD i []) &&& bitsN (gs.getD j []) = bitsN (gs.getD j []))), Ev.step step (Ev.bind hE1 ?_), ?_⟩
          · rw [decide_eq_true h1]
            simp only [if_true]
            refine Ev.bind hE2 ?_
            rw [show decide (cmpL (gs.getD (i - 1) []) (gs.getD i []) ≥ 0) = false from decide_eq_false (by omega)]
            exact hj1
          · rw [Bool.and_eq_true, hb', decide_eq_true_iff]
            constructor
            · rintro ⟨h2, h3⟩ j hj hjl
              by_cases e : j = i
              · subst e; exact ⟨h1, fun _ => hc, fun m hm => h3 m hm (by omega)⟩
              · exact h2 j (by omega) hjl
            · intro h2
              exact ⟨fun j hj hjl => h2 j (by omega) hjl, fun j hj _ => (h2 i (Nat.le_refl _) hlt).2.2 j hj⟩
        · refine ⟨false, Ev.step step (Ev.bind hE1 ?_), ?_⟩
          · rw [decide_eq_true h1]
            simp only [if_true]
            refine Ev.bind hE2 ?_
            rw [show decide (cmpL (gs.getD (i - 1) []) (gs.getD i []) ≥ 0) = true from decide_eq_true (by omega)]
            exact Ev.step (fun k => by simp only [impl_ValidFamily.j1]; rw [if_pos trivial]) (Ev.now false)
          · simp only [Bool.false_eq_true, false_iff]
            intro h
            exact hc ((h i (Nat.le_refl _) hlt).2.1 h0)
      · have step : ∀ k, impl_ValidFamily.l0 (k + 1) gs (gs.length : Int) (i : Int) (n : Int) gs = (impl_isGroup.f k (n : Int) (gs.getD i [])).bind fun t113 => if t113 = true then impl_ValidFamily.j1 k (i : Int) (gs.getD i []) gs (gs.length : Int) (i : Int) false (n : Int) gs else impl_ValidFamily.j1 k (i : Int) (gs.getD i []) gs (gs.length : Int) (i : Int) true (n : Int) gs := fun k => by
          simp only [impl_ValidFamily.l0]
          rw [if_pos (by omega), if_pos (by omega), if_pos (by omega), rdL]
          congr 1
          funext t
          rw [if_neg (show ¬ (i : Int) > 0 by omega)]
        refine ⟨b && decide (∀ j, j < i → 0 ≤ j → ¬ (bitsN (gs.getD j []) &&& bitsN (gs.getD i []) = bitsN (gs.getD i [])) ∧ ¬ (bitsN (gs.getD i []) &&& bitsN (gs.getD j []) = bitsN (gs.getD j []))), Ev.step step (Ev.bind hE1 ?_), ?_⟩
        · rw [decide_eq_true h1]
          simp only [if_true]
          exact hj1
        · rw [Bool.and_eq_true, hb', decide_eq_true_iff]
          constructor
          · rintro ⟨h2, h3⟩ j hj hjl
            by_cases e : j = i
            · subst e; exact ⟨h1, fun h => absurd h h0, fun m hm => h3 m hm (by omega)⟩
            · exact h2 j (by omega) hjl
          · intro h2
            exact ⟨fun j hj hjl => h2 j (by omega) hjl, fun j hj _ => (h2 i (Nat.le_refl _) hlt).2.2 j hj⟩
    · refine ⟨false, Ev.step (f := fun k => (impl_isGroup.f k (n : Int) (gs.getD i [])).bind fun t113 => if t113 = true then (if (i : Int) > 0 then (if 0 ≤ (wrap64 ((i : Int) - 1)) then (if (wrap64 ((i : Int) - 1)) < (gs.length : Int) then ((slices_Compare_int64_int64.f k (rd_L1 gs (wrap64 ((i : Int) - 1))) (gs.getD i [])).bind fun t115 => (impl_ValidFamily.j1 k (i : Int) (gs.getD i []) gs (gs.length : Int) (i : Int) (decide (t115 ≥ 0)) (n : Int) gs)) else (none)) else (none)) else (impl_ValidFamily.j1 k (i : Int) (gs.getD i []) gs (gs.length : Int) (i : Int) false (n : Int) gs)) else impl_ValidFamily.j1 k (i : Int) (gs.getD i []) gs (gs.length : Int) (i : Int) true (n : Int) gs)
        (fun k => by simp only [impl_ValidFamily.l0]; rw [if_pos (by omega), if_pos (by omega), if_pos (by omega), rdL]) (Ev.bind hE1 ?_), ?_⟩
      · rw [decide_eq_false h1]
        simp only [Bool.false_eq_true, if_false]
        exact Ev.step (fun k => by simp only [impl_ValidFamily.j1]; rw [if_pos trivial]) (Ev.now false)
      · simp only [Bool.false_eq_true, false_iff]
        intro h
        exact h1 (h i (Nat.le_refl _) hlt).1

theorem goods {n : Nat} {gs : List (List Int)} : (∀ j, 0 ≤ j → j < gs.length → GoodAt n gs j) ↔ (∀ g ∈ gs, isGroupN n g) ∧ gs.Pairwise Apart2 := by
  constructor
  · intro h
    have hadj : ∀ j i, j < gs.length → i < j → cmpL (gs.getD i []) (gs.getD j []) < 0 := by
      intro j
      induction j with
      | zero => intro i _ hi; omega
      | succ j ih =>
        intro i hj hij
        have h1 := (h (j + 1) (by omega) hj).2.1 (by omega)
        simp only [Nat.add_sub_cancel] at h1
        by_cases e : i = j
        · subst e; exact h1
        · exact cmpL_trans _ _ _ (ih i (by omega) (by omega)) h1
    refine ⟨fun g hg => ?_, ?_⟩
    · obtain ⟨i, hi, rfl⟩ := List.mem_iff_getElem.1 hg
      have := (h i (by omega) hi).1
      rwa [getDg hi] at this
    · rw [List.pairwise_iff_getElem]
      intro i j hi hj hij
      have h1 := hadj j i hj hij
      have h2 := (h j (by omega) hj).2.2 i hij
      rw [getDg hi, getDg hj] at *
      exact ⟨h1, h2⟩
  · rintro ⟨h1, h2⟩ j _ hj
    rw [List.pairwise_iff_getElem] at h2
    refine ⟨by rw [getDg hj]; exact h1 _ (List.getElem_mem hj), fun h0 => ?_, fun m hm => ?_⟩
    · rw [getDg hj, getDg (show j - 1 < gs.length by omega)]
      exact (h2 (j - 1) j (by omega) hj (by omega)).1
    · rw [getDg hj, getDg (show m < gs.length by omega)]
      exact (h2 m j (by omega) hj hm).2

theorem valid_is (n : Int) (gs : List (List Int)) (hl : gs.length ≤ 9223372036854775807) (hgl : ∀ g ∈ gs, g.length ≤ 9223372036854775807) : Ev (fun k => impl_ValidFamily.f k n gs) (decide (ValidF n gs)) := by
  unfold impl_ValidFamily.f
  rw [within_is]
  simp only [Option.bind_some, decide_eq_true_eq]
  by_cases h : 1 ≤ n ∧ n ≤ 7
  · obtain ⟨b, hb, hb'⟩ := outer_loop n.toNat (by omega) gs hl hgl gs.length 0 (by omega) (by omega) (fun m hm => by omega)
    rw [show ((n.toNat : Nat) : Int) = n by omega] at hb
    have : b = decide (ValidF n gs) := by
      rw [Bool.eq_iff_iff, hb', goods, decide_eq_true_iff]
      unfold ValidF
      exact ⟨fun h2 => ⟨h, h2⟩, fun h2 => h2.2⟩
    rw [← this]
    exact hb.congr (fun k => by simp only [if_pos h]; rfl)
  · rw [show decide (ValidF n gs) = false from decide_eq_false (fun h2 => h h2.1)]
    exact ⟨0, fun k _ => by simp only [if_neg h]⟩

end Go.Proofs.Ytmeaffkgnmgmeaa.Valid
