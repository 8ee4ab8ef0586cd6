/- Renaming, in bits: a set covers a renamed group just where its image covers the group. No program in sight. -/
import Derived.Test.YtgemfighmnnmeaaGreatFam
namespace Go.Proofs.YtgemfighmnnmeaaGreat.RenLaw
theorem fold_bit (f : Nat → Nat) (q : Nat → Bool) : ∀ (l : List Nat) (s j : Nat), (l.foldl (fun d k => if q k = true then d ||| 1 <<< f k else d) s).testBit j = (s.testBit j || l.any fun k => q k && decide (f k = j))
  | [], s, j => by simp
  | k :: l, s, j => by
    rw [List.foldl_cons, fold_bit f q l, List.any_cons]
    cases hq : q k with
    | false => simp
    | true =>
      rw [if_pos rfl, Nat.testBit_or, Nat.one_shiftLeft, Nat.testBit_two_pow, Bool.true_and, Bool.or_assoc]
/-- The renamed group of a group, the image of a set; o k: the holder that takes number k. -/
def renB (n : Nat) (o : Nat → Nat) (b : Nat) : Nat := (List.range n).foldl (fun d k => if b.testBit (o k) = true then d ||| 1 <<< k else d) 0
def imgB (n : Nat) (o : Nat → Nat) (c : Nat) : Nat := (List.range n).foldl (fun d k => if c.testBit k = true then d ||| 1 <<< o k else d) 0
theorem ren_bit (n : Nat) (o : Nat → Nat) (b j : Nat) : (renB n o b).testBit j = true ↔ j < n ∧ b.testBit (o j) = true := by
  unfold renB
  rw [fold_bit (fun k => k) (fun k => b.testBit (o k))]
  simp only [Nat.zero_testBit, Bool.false_or, List.any_eq_true, List.mem_range, Bool.and_eq_true, decide_eq_true_iff]
  constructor
  · rintro ⟨k, hk, h, rfl⟩
    exact ⟨hk, h⟩
  · rintro ⟨hj, h⟩
    exact ⟨j, hj, h, rfl⟩
theorem img_bit (n : Nat) (o : Nat → Nat) (c j : Nat) : (imgB n o c).testBit j = true ↔ ∃ k, k < n ∧ c.testBit k = true ∧ o k = j := by
  unfold imgB
  rw [fold_bit o (fun k => c.testBit k)]
  simp only [Nat.zero_testBit, Bool.false_or, List.any_eq_true, List.mem_range, Bool.and_eq_true, decide_eq_true_iff]
theorem covers_iff (x y : Nat) : x &&& y = y ↔ ∀ j, y.testBit j = true → x.testBit j = true := by
  constructor
  · intro h j hj
    rw [← h, Nat.testBit_and] at hj
    exact (Bool.and_eq_true _ _ ▸ hj).1
  · intro h
    apply Nat.eq_of_testBit_eq
    intro j
    rw [Nat.testBit_and]
    cases hy : y.testBit j with
    | false => simp
    | true => rw [h j hy]; rfl
theorem ren_covers (n : Nat) (o : Nat → Nat) (hs : ∀ h, h < n → ∃ k, k < n ∧ o k = h) (hi : ∀ k j, k < n → j < n → o k = o j → k = j) (b c : Nat) (hb : ∀ h, b.testBit h = true → h < n) :
    c &&& renB n o b = renB n o b ↔ imgB n o c &&& b = b := by
  rw [covers_iff, covers_iff]
  constructor
  · intro h j hj
    obtain ⟨k, hk, rfl⟩ := hs j (hb j hj)
    exact (img_bit n o c _).2 ⟨k, hk, h k ((ren_bit n o b k).2 ⟨hk, hj⟩), rfl⟩
  · intro h j hj
    obtain ⟨hjn, hbj⟩ := (ren_bit n o b j).1 hj
    obtain ⟨k, hk, hck, he⟩ := (img_bit n o c _).1 (h _ hbj)
    rwa [hi k j hk hjn he] at hck
/-! ### a list that holds so many numbers holds each once -/
theorem len_ge : ∀ (n : Nat) (l : List Nat), (∀ h, h < n → h ∈ l) → n ≤ l.length
  | 0, _, _ => Nat.zero_le _
  | n + 1, l, hl => by
    have hm := hl n (by omega)
    have h1 := len_ge n (l.erase n) (fun h hh => (List.mem_erase_of_ne (by omega)).2 (hl h (by omega)))
    rw [List.length_erase_of_mem hm] at h1
    have h2 := List.length_pos_of_mem hm
    omega
theorem nodup_of_all : ∀ (n : Nat) (l : List Nat), (∀ h, h < n → h ∈ l) → l.length ≤ n → l.Nodup
  | 0, l, _, hl => by
    have : l = [] := List.eq_nil_of_length_eq_zero (by omega)
    subst this
    exact List.nodup_nil
  | n + 1, l, ha, hl => by
    have hm := ha n (by omega)
    have hlen := List.length_erase_of_mem hm
    have hpos := List.length_pos_of_mem hm
    have ha' : ∀ h, h < n → h ∈ l.erase n := fun h hh => (List.mem_erase_of_ne (by omega)).2 (ha h (by omega))
    have ih := nodup_of_all n (l.erase n) ha' (by omega)
    have hno : n ∉ l.erase n := fun h2 => by
      have h3 := len_ge n ((l.erase n).erase n) (fun h hh => (List.mem_erase_of_ne (by omega)).2 (ha' h hh))
      rw [List.length_erase_of_mem h2] at h3
      have h4 := List.length_pos_of_mem h2
      omega
    exact (List.perm_cons_erase hm).nodup_iff.2 (List.nodup_cons.2 ⟨hno, ih⟩)
theorem inj_of_surj (n : Nat) (o : Nat → Nat) (hs : ∀ h, h < n → ∃ k, k < n ∧ o k = h) : ∀ k j, k < n → j < n → o k = o j → k = j := by
  have hnd := nodup_of_all n ((List.range n).map o) (fun h hh => by
    obtain ⟨k, hk, rfl⟩ := hs h hh
    exact List.mem_map.2 ⟨k, List.mem_range.2 hk, rfl⟩) (by simp)
  have hp := List.pairwise_iff_getElem.1 (List.nodup_iff_pairwise_ne.1 hnd)
  intro k j hk hj e
  rcases Nat.lt_trichotomy k j with h | h | h
  · exact absurd (by rw [List.getElem_map, List.getElem_map, List.getElem_range, List.getElem_range]; exact e) (hp k j (by simpa using hk) (by simpa using hj) h)
  · exact h
  · exact absurd (by rw [List.getElem_map, List.getElem_map, List.getElem_range, List.getElem_range]; exact e.symm) (hp j k (by simpa using hj) (by simpa using hk) h)
end Go.Proofs.YtgemfighmnnmeaaGreat.RenLaw
