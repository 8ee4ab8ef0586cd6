/- Laws of families in plain Lean: what the least groups of a predicate on sets open. No program in sight. -/
import Derived.Test.YtmeaffkgnmgmeaaValid
namespace Go.Proofs.Ytmeaffkgnmgmeaa.FamLaw
open Go.Proofs.Ytmeaffkgnmgmeaa.Fam Go.Proofs.Ytmeaffkgnmgmeaa.Valid
set_option linter.unusedVariables false

/-- More holders never open less. -/
def Mono (n : Nat) (p : Nat → Bool) : Prop := ∀ c d, c < 2 ^ n → d < 2 ^ n → d &&& c = c → p c = true → p d = true

theorem lt_of_bit {n c h : Nat} (hc : c < 2 ^ n) (ht : c.testBit h = true) : h < n := by
  rcases Nat.lt_or_ge h n with h1 | h1
  · exact h1
  · have := Nat.testBit_lt_two_pow (x := c) (i := h) (Nat.lt_of_lt_of_le hc (Nat.pow_le_pow_right (by omega) h1))
    rw [this] at ht; cases ht
theorem two_pow_le {n : Nat} (hn : n ≤ 7) : 2 ^ n ≤ 128 := by have := Nat.pow_le_pow_right (n := 2) (by omega) hn; simpa using this
theorem drop_lt {n c h : Nat} (hc : c < 2 ^ n) (ht : c.testBit h = true) : c ^^^ 1 <<< h < 2 ^ n := by
  apply Nat.xor_lt_two_pow hc
  rw [Nat.one_shiftLeft]
  exact Nat.pow_lt_pow_right (by omega) (lt_of_bit hc ht)
theorem drop_test {c h i : Nat} : (c ^^^ 1 <<< h).testBit i = (c.testBit i != decide (h = i)) := by
  rw [Nat.testBit_xor, Nat.one_shiftLeft, Nat.testBit_two_pow]
theorem drop_sub {n c h : Nat} (hn : n ≤ 7) (hc : c < 2 ^ n) (ht : c.testBit h = true) : c &&& (c ^^^ 1 <<< h) = c ^^^ 1 <<< h := by
  rw [sub_iff hn (drop_lt hc ht)]
  intro i _ hi
  rw [drop_test] at hi
  by_cases e : h = i
  · subst e; exact ht
  · simpa [e] using hi
theorem drop_lt_self {n c h : Nat} (hn : n ≤ 7) (hc : c < 2 ^ n) (ht : c.testBit h = true) : c ^^^ 1 <<< h < c := by
  have h1 : c &&& (c ^^^ 1 <<< h) ≤ c := Nat.and_le_left
  rw [drop_sub hn hc ht] at h1
  rcases Nat.lt_or_eq_of_le h1 with h2 | h2
  · exact h2
  · have h3 : (c ^^^ 1 <<< h).testBit h = c.testBit h := by rw [h2]
    rw [drop_test, ht] at h3
    simp at h3
theorem sub_trans {n a b c : Nat} (hn : n ≤ 7) (ha : a < 2 ^ n) (hb : b < 2 ^ n) (h1 : b &&& a = a) (h2 : c &&& b = b) : c &&& a = a := by
  rw [sub_iff hn ha] at *
  rw [sub_iff hn hb] at h2
  exact fun i hi ht => h2 i hi (h1 i hi ht)

theorem leastN_iff {n : Nat} {p : Nat → Bool} {c : Nat} : leastN n p c = true ↔ p c = true ∧ ∀ h, h < n → c.testBit h = true → p (c ^^^ 1 <<< h) = false := by
  unfold leastN
  rw [Bool.and_eq_true, List.all_eq_true]
  constructor
  · rintro ⟨h1, h2⟩
    refine ⟨h1, fun h hn ht => ?_⟩
    have := h2 h (List.mem_range.2 hn)
    rw [ht] at this
    simpa using this
  · rintro ⟨h1, h2⟩
    refine ⟨h1, fun h hn => ?_⟩
    cases ht : c.testBit h with
    | false => simp
    | true => rw [h2 h (List.mem_range.1 hn) ht]; simp
/-- Below each set that opens lies a least one. -/
theorem least_below {n : Nat} (hn : n ≤ 7) (p : Nat → Bool) : ∀ c, c < 2 ^ n → p c = true → ∃ m, m < 2 ^ n ∧ c &&& m = m ∧ leastN n p m = true := by
  intro c
  induction c using Nat.strongRecOn with
  | _ c ih =>
    intro hc hp
    by_cases hl : leastN n p c = true
    · exact ⟨c, hc, Nat.and_self c, hl⟩
    · rw [leastN_iff] at hl
      have : ∃ h, h < n ∧ c.testBit h = true ∧ p (c ^^^ 1 <<< h) = true := by
        refine Classical.byContradiction fun hno => hl ⟨hp, fun h hh ht => ?_⟩
        cases hq : p (c ^^^ 1 <<< h) with
        | false => rfl
        | true => exact absurd ⟨h, hh, ht, hq⟩ hno
      obtain ⟨h, hh, ht, hq⟩ := this
      obtain ⟨m, hm, hs, hl⟩ := ih _ (drop_lt_self hn hc ht) (drop_lt hc ht) hq
      exact ⟨m, hm, sub_trans hn hm (drop_lt hc ht) hs (drop_sub hn hc ht), hl⟩
theorem openN_iff {gs : List (List Int)} {c : Nat} : openN gs c = true ↔ ∃ g ∈ gs, c &&& bitsN g = bitsN g := by
  unfold openN
  rw [List.any_eq_true]
  simp
theorem openN_mono {n : Nat} (hn : n ≤ 7) {gs : List (List Int)} (hg : ∀ g ∈ gs, isGroupN n g) : Mono n (openN gs) := by
  intro c d hc hd hs hp
  rw [openN_iff] at *
  obtain ⟨g, hgm, h⟩ := hp
  exact ⟨g, hgm, sub_trans hn (bitsN_lt (hg g hgm).1) hc h hs⟩
theorem openN_famN {n : Nat} (hn : n ≤ 7) {p : Nat → Bool} (hm : Mono n p) {c : Nat} (hc : c < 2 ^ n) : openN (famN n p) c = p c := by
  have h7 := two_pow_le hn
  rw [Bool.eq_iff_iff, openN_iff]
  constructor
  · rintro ⟨g, hg, hs⟩
    obtain ⟨m, hm1, hl, rfl⟩ := mem_crowdsN.1 hg
    rw [bitsN_groupN (by omega)] at hs
    exact hm m c hm1 hc hs (leastN_iff.1 hl).1
  · intro hp
    obtain ⟨m, hm1, hs, hl⟩ := least_below hn p c hc hp
    exact ⟨groupN m, mem_crowdsN.2 ⟨m, hm1, hl, rfl⟩, by rw [bitsN_groupN (by omega)]; exact hs⟩
theorem leastN_congr {n : Nat} {p q : Nat → Bool} (h : ∀ c, c < 2 ^ n → p c = q c) {c : Nat} (hc : c < 2 ^ n) : leastN n p c = leastN n q c := by
  rw [Bool.eq_iff_iff, leastN_iff, leastN_iff, h c hc]
  constructor
  · rintro ⟨h1, h2⟩
    exact ⟨h1, fun i hi ht => by rw [← h _ (drop_lt hc ht)]; exact h2 i hi ht⟩
  · rintro ⟨h1, h2⟩
    exact ⟨h1, fun i hi ht => by rw [h _ (drop_lt hc ht)]; exact h2 i hi ht⟩
theorem crowdsN_congr {n : Nat} {p q : Nat → Bool} (h : ∀ c, c < 2 ^ n → p c = q c) : crowdsN n p = crowdsN n q := by
  unfold crowdsN
  rw [List.filter_congr (fun c hc => h c (List.mem_range.1 hc))]
theorem famN_congr {n : Nat} {p q : Nat → Bool} (h : ∀ c, c < 2 ^ n → p c = q c) : famN n p = famN n q := crowdsN_congr (fun c hc => leastN_congr h hc)

theorem nodup_crowdsN {n : Nat} (hn : n ≤ 7) (p : Nat → Bool) : (crowdsN n p).Nodup := by
  have h7 := two_pow_le hn
  unfold crowdsN
  rw [(sort_perm _).nodup_iff, List.nodup_iff_pairwise_ne, List.pairwise_map]
  refine List.Pairwise.imp_of_mem ?_ ((List.nodup_iff_pairwise_ne.1 (List.nodup_range (n := 2 ^ n))).filter p)
  intro a b ha hb hab e
  have ha' := List.mem_range.1 (List.mem_filter.1 ha).1
  have hb' := List.mem_range.1 (List.mem_filter.1 hb).1
  apply hab
  rw [← bitsN_groupN (c := a) (by omega), ← bitsN_groupN (c := b) (by omega), e]
theorem strict_of {l : List (List Int)} (h1 : l.Pairwise (fun a b => leL a b = true)) (h2 : l.Nodup) : l.Pairwise (fun a b => cmpL a b < 0) := by
  refine List.Pairwise.imp₂ (R := fun a b => leL a b = true) (S := fun a b => a ≠ b) ?_ h1 h2
  intro a b h1 h2
  have h3 := cmpL_range a b
  have h4 := cmpL_neg a b
  have h5 : ¬ cmpL b a < 0 := by simpa [leL] using h1
  have h6 : cmpL a b ≠ 0 := fun e => h2 (cmpL_zero a b e)
  omega
theorem crowdsN_strict {n : Nat} (hn : n ≤ 7) (p : Nat → Bool) : (crowdsN n p).Pairwise (fun a b => cmpL a b < 0) :=
  strict_of (by unfold crowdsN; exact sort_sorted _) (nodup_crowdsN hn p)

/-- No least set is within another one. -/
theorem least_apart {n : Nat} (hn : n ≤ 7) {p : Nat → Bool} (hm : Mono n p) {a b : Nat} (ha : a < 2 ^ n) (hb : b < 2 ^ n) (la : leastN n p a = true) (lb : leastN n p b = true) (hs : a &&& b = b) : a = b := by
  refine Classical.byContradiction fun hne => ?_
  have h1 := (sub_iff hn hb).1 hs
  have : ∃ h, h < n ∧ a.testBit h = true ∧ b.testBit h = false := by
    refine Classical.byContradiction fun hno => hne ?_
    apply Nat.eq_of_testBit_eq
    intro i
    cases hai : a.testBit i with
    | true =>
      cases hbi : b.testBit i with
      | true => rfl
      | false => exact absurd ⟨i, lt_of_bit ha hai, hai, hbi⟩ hno
    | false =>
      cases hbi : b.testBit i with
      | false => rfl
      | true => have := h1 i (lt_of_bit hb hbi) hbi; rw [hai] at this; cases this
  obtain ⟨h, hh, hat, hbt⟩ := this
  have h2 := (leastN_iff.1 la).2 h hh hat
  have h3 := hm b (a ^^^ 1 <<< h) hb (drop_lt ha hat) (by
    rw [sub_iff hn hb]
    intro i hi hbi
    rw [drop_test]
    by_cases e : h = i
    · subst e; rw [hbt] at hbi; cases hbi
    · simp [e, h1 i hi hbi]) (leastN_iff.1 lb).1
  rw [h2] at h3; cases h3
theorem famN_valid {n : Nat} (hn1 : 1 ≤ n) (hn : n ≤ 7) {p : Nat → Bool} (hm : Mono n p) : ValidF (n : Int) (famN n p) := by
  have h7 := two_pow_le hn
  refine ⟨by omega, fun g hg => ?_, ?_⟩
  · obtain ⟨m, hm1, _, rfl⟩ := mem_crowdsN.1 hg
    rw [Int.toNat_natCast]
    exact groupN_is hn hm1
  · refine (crowdsN_strict hn (leastN n p)).imp_of_mem ?_
    intro a b ha hb hab
    obtain ⟨x, hx, lx, rfl⟩ := mem_crowdsN.1 ha
    obtain ⟨y, hy, ly, rfl⟩ := mem_crowdsN.1 hb
    unfold Apart2
    rw [bitsN_groupN (by omega), bitsN_groupN (by omega)]
    refine ⟨hab, fun hs => ?_, fun hs => ?_⟩
    · have := least_apart hn hm hx hy lx ly hs
      subst this
      rw [cmpL_self] at hab; omega
    · have := least_apart hn hm hy hx ly lx hs
      subst this
      rw [cmpL_self] at hab; omega
/-- A valid family is that of its opening groups. -/
theorem famN_openN {n : Nat} (hn : n ≤ 7) {gs : List (List Int)} (h : ValidF (n : Int) gs) : famN n (openN gs) = gs := by
  have h7 := two_pow_le hn
  obtain ⟨_, hg, hp⟩ := h
  rw [Int.toNat_natCast] at hg
  have hstrict : gs.Pairwise (fun a b => cmpL a b < 0) := hp.imp (fun h => h.1)
  have hnd : gs.Nodup := hstrict.imp (fun h e => by subst e; rw [cmpL_self] at h; omega)
  have hsort : gs.Pairwise (fun a b => leL a b = true) := hstrict.imp (fun {a b} h => by
    have := cmpL_neg a b
    have : ¬ cmpL b a < 0 := by omega
    simp [leL, this])
  have hin : ∀ g ∈ gs, ∀ g' ∈ gs, bitsN g &&& bitsN g' = bitsN g' → g = g' := by
    intro g hg1 g' hg2 hs
    obtain ⟨i, hi, rfl⟩ := List.mem_iff_getElem.1 hg1
    obtain ⟨j, hj, rfl⟩ := List.mem_iff_getElem.1 hg2
    rcases Nat.lt_trichotomy i j with hij | hij | hij
    · exact absurd hs (List.pairwise_iff_getElem.1 hp i j hi hj hij).2.1
    · subst hij; rfl
    · exact absurd hs (List.pairwise_iff_getElem.1 hp j i hj hi hij).2.2
  refine sorted_unique ?_ (by unfold famN crowdsN; exact sort_sorted _) hsort
  refine (List.perm_ext_iff_of_nodup (nodup_crowdsN hn _) hnd).2 fun g => ?_
  rw [mem_crowdsN]
  constructor
  · rintro ⟨c, hc, hl, rfl⟩
    rw [leastN_iff, openN_iff] at hl
    obtain ⟨⟨g, hgm, hs⟩, hno⟩ := hl
    have hb : bitsN g < 2 ^ n := bitsN_lt (hg g hgm).1
    by_cases e : c = bitsN g
    · rw [e, groupN_bitsN hn (hg g hgm)]; exact hgm
    · exfalso
      have hsub := (sub_iff hn hb).1 hs
      have : ∃ h, h < n ∧ c.testBit h = true ∧ (bitsN g).testBit h = false := by
        refine Classical.byContradiction fun hno => e ?_
        apply Nat.eq_of_testBit_eq
        intro i
        cases hai : c.testBit i with
        | true =>
          cases hbi : (bitsN g).testBit i with
          | true => rfl
          | false => exact absurd ⟨i, lt_of_bit hc hai, hai, hbi⟩ hno
        | false =>
          cases hbi : (bitsN g).testBit i with
          | false => rfl
          | true => have := hsub i (lt_of_bit hb hbi) hbi; rw [hai] at this; cases this
      obtain ⟨h, hh, hct, hgt⟩ := this
      have h2 := hno h hh hct
      have h3 : openN gs (c ^^^ 1 <<< h) = true := openN_iff.2 ⟨g, hgm, by
        rw [sub_iff hn hb]
        intro i hi hbi
        rw [drop_test]
        by_cases e : h = i
        · subst e; rw [hgt] at hbi; cases hbi
        · simp [e, hsub i hi hbi]⟩
      rw [h2] at h3; cases h3
  · intro hgm
    have hb : bitsN g < 2 ^ n := bitsN_lt (hg g hgm).1
    refine ⟨bitsN g, hb, ?_, groupN_bitsN hn (hg g hgm)⟩
    rw [leastN_iff, openN_iff]
    refine ⟨⟨g, hgm, Nat.and_self _⟩, fun h hh ht => ?_⟩
    cases ho : openN gs (bitsN g ^^^ 1 <<< h) with
    | false => rfl
    | true =>
      obtain ⟨g', hg', hs⟩ := openN_iff.1 ho
      have hb' : bitsN g' < 2 ^ n := bitsN_lt (hg g' hg').1
      have := hin g hgm g' hg' (sub_trans hn hb' (drop_lt hb ht) hs (drop_sub hn hb ht))
      subst this
      have h4 := (sub_iff hn hb').1 hs h hh ht
      rw [drop_test, ht] at h4
      simp at h4

end Go.Proofs.Ytmeaffkgnmgmeaa.FamLaw
