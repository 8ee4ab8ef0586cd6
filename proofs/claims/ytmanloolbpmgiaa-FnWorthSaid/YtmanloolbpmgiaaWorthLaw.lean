/- Numbers of sets that are so: by size, at a holder's swings, of the dual. No program in sight. -/
import Derived.Test.YtmanloolbpmgiaaTMay0
namespace Go.Proofs.Ytmanloolbpmgiaa.WorthLaw
open Go.Proofs.Ytmanloolbpmgiaa.Fam Go.Proofs.Ytmanloolbpmgiaa.Valid Go.Proofs.Ytmanloolbpmgiaa.FamLaw Go.Proofs.Ytmanloolbpmgiaa.Ops Go.Proofs.Ytmanloolbpmgiaa.TMay
set_option linter.unusedVariables false
set_option maxRecDepth 100000

/-- How many sets below m are so. -/
def cnt (p : Nat → Bool) (m : Nat) : Nat := ((List.range m).filter p).length
theorem cnt_zero (p : Nat → Bool) : cnt p 0 = 0 := rfl
theorem cnt_succ (p : Nat → Bool) (m : Nat) : cnt p (m + 1) = cnt p m + (if p m = true then 1 else 0) := by
  unfold cnt
  rw [List.range_succ, List.filter_append, List.length_append]
  congr 1
  cases h : p m <;> simp [h]
theorem cnt_le (p : Nat → Bool) (m : Nat) : cnt p m ≤ m := by
  unfold cnt
  have := List.length_filter_le p (List.range m)
  rwa [List.length_range] at this
theorem cnt_congr {p q : Nat → Bool} : ∀ {m : Nat}, (∀ c, c < m → p c = q c) → cnt p m = cnt q m
  | 0, _ => rfl
  | m + 1, h => by rw [cnt_succ, cnt_succ, cnt_congr (fun c hc => h c (by omega)), h m (by omega)]
theorem cnt_split {p q r : Nat → Bool} : ∀ {m : Nat}, (∀ c, c < m → (r c = true ↔ p c = true ∨ q c = true) ∧ ¬ (p c = true ∧ q c = true)) → cnt p m + cnt q m = cnt r m
  | 0, _ => rfl
  | m + 1, h => by
    have h1 := cnt_split (fun c hc => h c (Nat.lt_succ_of_lt hc))
    obtain ⟨h2, h3⟩ := h m (by omega)
    rw [cnt_succ, cnt_succ, cnt_succ, ← h1]
    cases hp : p m <;> cases hq : q m <;> cases hr : r m <;> simp [hp, hq, hr] at h2 h3 ⊢ <;> omega
theorem cnt_turn {m : Nat} (f : Nat → Nat) (hf : ∀ c, c < m → f c < m) (hi : ∀ c, c < m → f (f c) = c) (p : Nat → Bool) : cnt (fun c => p (f c)) m = cnt p m := by
  have hp : ((List.range m).map f).Perm (List.range m) := by
    refine (List.perm_ext_iff_of_nodup ?_ List.nodup_range).2 ?_
    · rw [List.nodup_iff_pairwise_ne, List.pairwise_map]
      refine List.Pairwise.imp_of_mem ?_ (List.nodup_iff_pairwise_ne.1 (List.nodup_range (n := m)))
      intro a b ha hb hab e
      apply hab
      rw [← hi a (List.mem_range.1 ha), ← hi b (List.mem_range.1 hb), e]
    · intro a
      rw [List.mem_map, List.mem_range]
      constructor
      · rintro ⟨c, hc, rfl⟩
        exact hf c (List.mem_range.1 hc)
      · intro ha
        exact ⟨f a, List.mem_range.2 (hf a ha), hi a ha⟩
  have h1 := (hp.filter p).length_eq
  rw [List.filter_map, List.length_map] at h1
  exact h1
theorem cnt_pos {p : Nat → Bool} {m : Nat} : 0 < cnt p m ↔ ∃ c, c < m ∧ p c = true := by
  unfold cnt
  rw [List.length_pos_iff_exists_mem]
  simp

/-! ### sizes -/
def sizeN (c : Nat) : Nat := (groupN c).length
def bySize (gs : List (List Int)) (j c : Nat) : Bool := openN gs c && decide (sizeN c = j)
def chooseN (n k : Nat) : Nat := cnt (fun c => decide (sizeN c = k)) (2 ^ n)
theorem size_rest : ∀ n : Fin 8, ∀ c : Fin 128, c.val < 2 ^ n.val → sizeN (2 ^ n.val - 1 - c.val) + sizeN c.val = n.val := by decide +kernel
theorem size_le {n c : Nat} (hn : n ≤ 7) (hc : c < 2 ^ n) : sizeN c ≤ n := by
  have h7 := two_pow_le hn
  have := size_rest ⟨n, by omega⟩ ⟨c, by omega⟩ hc
  simp only at this
  omega
theorem sizes_add {n : Nat} (hn : n ≤ 7) {gs ds : List (List Int)} (hd : ∀ c, c < 2 ^ n → openN ds c = !openN gs (2 ^ n - 1 - c)) {k : Nat} (hk : k ≤ n) :
    cnt (bySize gs k) (2 ^ n) + cnt (bySize ds (n - k)) (2 ^ n) = chooseN n k := by
  have h7 := two_pow_le hn
  have h1 : cnt (bySize ds (n - k)) (2 ^ n) = cnt (fun d => !openN gs d && decide (sizeN d = k)) (2 ^ n) := by
    refine Eq.trans (cnt_congr (q := fun c => (fun d => !openN gs d && decide (sizeN d = k)) (2 ^ n - 1 - c)) (fun c hc => ?_)) (cnt_turn (fun c => 2 ^ n - 1 - c) (fun c hc => by show 2 ^ n - 1 - c < 2 ^ n; omega) (fun c hc => by show 2 ^ n - 1 - (2 ^ n - 1 - c) = c; omega) (fun d => !openN gs d && decide (sizeN d = k)))
    have h2 := size_rest ⟨n, by omega⟩ ⟨c, by omega⟩ hc
    simp only at h2
    unfold bySize
    rw [hd c hc]
    show _ = (!openN gs (2 ^ n - 1 - c) && decide (sizeN (2 ^ n - 1 - c) = k))
    congr 1
    exact decide_eq_decide.2 (by omega)
  rw [h1]
  refine cnt_split (fun c hc => ?_)
  unfold bySize
  cases ho : openN gs c <;> simp
theorem all_sizes (n : Nat) (gs : List (List Int)) : (crowdsN n (openN gs)).length = cnt (openN gs) (2 ^ n) := by
  unfold crowdsN cnt
  rw [List.length_mergeSort, List.length_map]

/-! ### swings -/
def swing (gs : List (List Int)) (h c : Nat) : Bool := !c.testBit h && (!openN gs c && openN gs (c ||| 1 <<< h))
def swings (n : Nat) (gs : List (List Int)) (h : Nat) : Nat := cnt (swing gs h) (2 ^ n)
def neededN (gs : List (List Int)) : Nat := gs.foldl (fun b g => b ||| bitsN g) 0
def vetoN (n : Nat) (gs : List (List Int)) : Nat := gs.foldl (fun b g => b &&& bitsN g) (2 ^ n - 1)
theorem needed_bit (gs : List (List Int)) (h : Nat) : (neededN gs).testBit h = gs.any fun g => (bitsN g).testBit h := by
  have key : ∀ (gs : List (List Int)) (b : Nat), (gs.foldl (fun b g => b ||| bitsN g) b).testBit h = (b.testBit h || gs.any fun g => (bitsN g).testBit h) := by
    intro gs
    induction gs with
    | nil => intro b; simp
    | cons g gs ih => intro b; rw [List.foldl_cons, ih, Nat.testBit_or, List.any_cons, Bool.or_assoc]
  unfold neededN
  rw [key, Nat.zero_testBit, Bool.false_or]
theorem veto_bit (n : Nat) (gs : List (List Int)) {h : Nat} (hh : h < n) : (vetoN n gs).testBit h = gs.all fun g => (bitsN g).testBit h := by
  have key : ∀ (gs : List (List Int)) (b : Nat), (gs.foldl (fun b g => b &&& bitsN g) b).testBit h = (b.testBit h && gs.all fun g => (bitsN g).testBit h) := by
    intro gs
    induction gs with
    | nil => intro b; simp
    | cons g gs ih => intro b; rw [List.foldl_cons, ih, Nat.testBit_and, List.all_cons, Bool.and_assoc]
  unfold vetoN
  rw [key, Nat.testBit_two_pow_sub_one, decide_eq_true hh, Bool.true_and]
theorem foldl_or_lt (gs : List (List Int)) (hg : ∀ g ∈ gs, bitsN g < 128) : ∀ b, b < 128 → gs.foldl (fun b g => b ||| bitsN g) b < 128 := by
  induction gs with
  | nil => intro b hb; exact hb
  | cons g gs ih =>
    intro b hb
    exact ih (fun x hx => hg x (List.mem_cons_of_mem _ hx)) _ (Nat.or_lt_two_pow (n := 7) hb (hg g List.mem_cons_self))
theorem foldl_and_lt (gs : List (List Int)) : ∀ b, b < 128 → gs.foldl (fun b g => b &&& bitsN g) b < 128 := by
  induction gs with
  | nil => intro b hb; exact hb
  | cons g gs ih =>
    intro b hb
    exact ih _ (Nat.lt_of_le_of_lt Nat.and_le_left hb)
theorem bit_of_sub {a b i : Nat} (h : a &&& b = b) (hi : b.testBit i = true) : a.testBit i = true := by
  rw [← h, Nat.testBit_and] at hi
  simp at hi
  exact hi.1
theorem swing_needed {n : Nat} {gs : List (List Int)} (hv : ValidF (n : Int) gs) {h : Nat} (hh : h < n) : decide ((swings n gs h : Int) > 0) = (neededN gs).testBit h := by
  have hn : n ≤ 7 := by have := hv.1; omega
  rw [Bool.eq_iff_iff, decide_eq_true_iff, needed_bit, List.any_eq_true]
  have h1 : (swings n gs h : Int) > 0 ↔ 0 < cnt (swing gs h) (2 ^ n) := by unfold swings; omega
  rw [h1, cnt_pos]
  constructor
  · rintro ⟨c, hc, hs⟩
    unfold swing at hs
    simp only [Bool.and_eq_true, Bool.not_eq_true'] at hs
    obtain ⟨ht, ho, hw⟩ := hs
    obtain ⟨g, hg, hx⟩ := openN_iff.1 hw
    refine ⟨g, hg, ?_⟩
    cases hb : (bitsN g).testBit h with
    | true => rfl
    | false =>
      have hno : ¬ openN gs c = true := by rw [ho]; simp
      refine absurd (openN_iff.2 ⟨g, hg, ?_⟩) hno
      rw [sub_iff hn (bitsN_lt (valid_groups hv g hg).1)]
      intro i hi hbi
      have h2 := bit_of_sub hx hbi
      rw [Nat.testBit_or, Nat.one_shiftLeft, Nat.testBit_two_pow] at h2
      by_cases e : h = i
      · subst e; rw [hb] at hbi; cases hbi
      · simpa [e] using h2
  · rintro ⟨g, hg, hb⟩
    have hlt := bitsN_lt (valid_groups hv g hg).1
    have hmem : g ∈ famN n (openN gs) := by rw [famN_openN hn hv]; exact hg
    obtain ⟨c, hc, hl, he⟩ := mem_crowdsN.1 hmem
    have h7 := two_pow_le hn
    have hce : bitsN g = c := by rw [← he, bitsN_groupN (by omega)]
    obtain ⟨hp, hd⟩ := leastN_iff.1 hl
    rw [← hce] at hp hd
    refine ⟨bitsN g ^^^ 1 <<< h, drop_lt hlt hb, ?_⟩
    unfold swing
    have h3 : (bitsN g ^^^ 1 <<< h) ||| 1 <<< h = bitsN g := by
      apply Nat.eq_of_testBit_eq
      intro i
      rw [Nat.testBit_or, drop_test, Nat.one_shiftLeft, Nat.testBit_two_pow]
      by_cases e : h = i
      · subst e; rw [hb]; simp
      · simp [e]
    rw [h3, hp, hd h hh hb, drop_test, hb]
    simp
theorem veto_all {n : Nat} {gs : List (List Int)} (hv : ValidF (n : Int) gs) {h : Nat} (hh : h < n) : (crowdsN n (openN gs)).all (fun g => decide ((h : Int) ∈ g)) = (vetoN n gs).testBit h := by
  have hn : n ≤ 7 := by have := hv.1; omega
  have h7 := two_pow_le hn
  rw [veto_bit n gs hh, Bool.eq_iff_iff, List.all_eq_true, List.all_eq_true]
  constructor
  · intro ha g hg
    have hlt := bitsN_lt (valid_groups hv g hg).1
    have h1 := ha (groupN (bitsN g)) (mem_crowdsN.2 ⟨bitsN g, hlt, openN_iff.2 ⟨g, hg, Nat.and_self _⟩, rfl⟩)
    have h2 := (groupN_mem.1 (of_decide_eq_true h1)).2.2
    simpa using h2
  · intro ha x hx
    obtain ⟨c, hc, ho, rfl⟩ := mem_crowdsN.1 hx
    obtain ⟨g, hg, hs⟩ := openN_iff.1 ho
    refine decide_eq_true (groupN_mem.2 ⟨by omega, by omega, ?_⟩)
    have := bit_of_sub hs (ha g hg)
    simpa using this

/-! ### alike holders -/
/-- Two holders exchanged. -/
def exchN (c a b : Nat) : Nat := if c.testBit a != c.testBit b then c ^^^ (1 <<< a ||| 1 <<< b) else c
theorem exch_two : ∀ c : Fin 128, ∀ a : Fin 7, ∀ b : Fin 7, exchN (exchN c.val a.val b.val) a.val b.val = c.val ∧ (exchN c.val a.val b.val).testBit b.val = c.val.testBit a.val ∧ (a.val ≠ b.val → c.val.testBit a.val = false → exchN (c.val ||| 1 <<< a.val) a.val b.val = exchN c.val a.val b.val ||| 1 <<< b.val) := by decide +kernel
theorem exch_lt {n c a b : Nat} (hc : c < 2 ^ n) (ha : a < n) (hb : b < n) : exchN c a b < 2 ^ n := by
  unfold exchN
  split
  · apply Nat.xor_lt_two_pow hc
    apply Nat.or_lt_two_pow
    · rw [Nat.one_shiftLeft]; exact Nat.pow_lt_pow_right (by omega) ha
    · rw [Nat.one_shiftLeft]; exact Nat.pow_lt_pow_right (by omega) hb
  · exact hc
def alikeB (n : Nat) (gs : List (List Int)) (a b : Nat) : Bool := (List.range (2 ^ n)).all fun c => openN gs c == openN gs (exchN c a b)
theorem alike_swings {n : Nat} (hn : n ≤ 7) {gs : List (List Int)} {a b : Nat} (ha : a < n) (hb : b < n) (hab : a ≠ b) (h : alikeB n gs a b = true) : swings n gs a = swings n gs b := by
  have h7 := two_pow_le hn
  have hall : ∀ c, c < 2 ^ n → openN gs c = openN gs (exchN c a b) := fun c hc => by
    unfold alikeB at h
    rw [List.all_eq_true] at h
    exact beq_iff_eq.1 (h c (List.mem_range.2 hc))
  unfold swings
  rw [← cnt_turn (fun c => exchN c a b) (fun c hc => exch_lt hc ha hb) (fun c hc => (exch_two ⟨c, by omega⟩ ⟨a, by omega⟩ ⟨b, by omega⟩).1) (swing gs b)]
  refine cnt_congr (fun c hc => ?_)
  obtain ⟨_, h2, h3⟩ := exch_two ⟨c, by omega⟩ ⟨a, by omega⟩ ⟨b, by omega⟩
  simp only at h2 h3
  unfold swing
  rw [h2]
  cases ht : c.testBit a with
  | true => simp
  | false =>
    have h4 := h3 hab ht
    rw [← h4, ← hall c hc]
    have hlt : c ||| 1 <<< a < 2 ^ n := Nat.or_lt_two_pow hc (by rw [Nat.one_shiftLeft]; exact Nat.pow_lt_pow_right (by omega) ha)
    rw [← hall _ hlt]

/-! ### sums -/
theorem sum_set : ∀ (L : List Int) (i : Nat), i < L.length → (L.set i (L.getD i 0 + 1)).sum = L.sum + 1
  | [], i, h => absurd h (Nat.not_lt_zero _)
  | a :: L, 0, _ => by simp only [List.set_cons_zero, List.getD_cons_zero, List.sum_cons]; omega
  | a :: L, i + 1, h => by
    have h1 := sum_set L i (by simpa using h)
    simp only [List.set_cons_succ, List.getD_cons_succ, List.sum_cons, h1]
    omega
theorem getD_set (L : List Int) (i j : Nat) (v : Int) (hi : i < L.length) : (L.set i v).getD j 0 = if i = j then v else L.getD j 0 := by
  simp only [List.getD_eq_getElem?_getD, List.getElem?_set]
  by_cases e : i = j
  · subst e; simp [hi]
  · simp [e]

end Go.Proofs.Ytmanloolbpmgiaa.WorthLaw
