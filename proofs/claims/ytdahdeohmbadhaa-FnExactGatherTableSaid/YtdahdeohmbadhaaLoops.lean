/- Plain lemmas about loops over lists, as the printed functions write them: no program in sight. -/
import Derived.Test.YtdahdeohmbadhaaWWords
namespace Go.Proofs.Ytdahdeohmbadhaa.Loops
open Go.RowKit Go.Proofs.YtdahdeohmbadhaaW.PrintWords

theorem wrap_id {i : Int} (h0 : -9223372036854775808 ≤ i) (h : i < 9223372036854775808) : wrap64 i = i := by
  unfold wrap64
  omega

theorem rd_nat (xs : List Int) (n : Nat) : rd xs (n : Int) = xs.getD n 0 := by simp [rd]

theorem drop_eq_step {α : Type} (d : α) (a b : List α) (n : Nat) (ha : n < a.length) (hb : n < b.length) :
    (a.drop n = b.drop n) ↔ (a.getD n d = b.getD n d ∧ a.drop (n + 1) = b.drop (n + 1)) := by
  rw [List.getD_eq_getElem?_getD, List.getD_eq_getElem?_getD, List.getElem?_eq_getElem ha, List.getElem?_eq_getElem hb]
  simp only [Option.getD_some]
  constructor
  · intro h
    rw [List.drop_eq_getElem_cons ha, List.drop_eq_getElem_cons hb] at h
    injection h with h1 h2
    exact ⟨h1, h2⟩
  · rintro ⟨h1, h2⟩
    rw [List.drop_eq_getElem_cons ha, List.drop_eq_getElem_cons hb, h1, h2]

/-- A loop that compares two lists of one length, element by element. -/
theorem eq_loop (l : Nat → Int → Option Bool) (a b : List Int) (hl : a.length = b.length) (hb : a.length ≤ 9223372036854775807)
    (step : ∀ (k : Nat) (i : Int), 0 ≤ i → i < (a.length : Int) → l (k + 1) i = if rd a i = rd b i then l k (wrap64 (i + 1)) else some false)
    (stop : ∀ k, l (k + 1) (a.length : Int) = some true) :
    ∀ (d k n : Nat), n ≤ a.length → a.length - n = d → d < k → l k (n : Int) = some (decide (a.drop n = b.drop n)) := by
  intro d
  induction d with
  | zero =>
    intro k n hn hd hk
    obtain ⟨k, rfl⟩ : ∃ m, k = m + 1 := ⟨k - 1, by omega⟩
    obtain rfl : n = a.length := by omega
    rw [stop k, List.drop_length, hl, List.drop_length]
    rfl
  | succ d ih =>
    intro k n hn hd hk
    obtain ⟨k, rfl⟩ : ∃ m, k = m + 1 := ⟨k - 1, by omega⟩
    have hlt : n < a.length := by omega
    rw [step k n (by omega) (by omega), wrap_id (by omega) (by omega), rd_nat, rd_nat]
    have hs := drop_eq_step 0 a b n hlt (by omega)
    by_cases h : a.getD n 0 = b.getD n 0
    · rw [if_pos h]
      have := ih k (n + 1) (by omega) (by omega) (by omega)
      rw [show ((n : Int) + 1) = ((n + 1 : Nat) : Int) from by omega, this]
      congr 1
      apply decide_eq_decide.2
      rw [hs]
      exact ⟨fun h' => ⟨h, h'⟩, fun h' => h'.2⟩
    · rw [if_neg h]
      congr 1
      symm
      apply decide_eq_false
      rw [hs]
      exact fun h' => h h'.1

/-- A loop that copies a list into another one of the same length. -/
theorem copy_loop {α : Type} (d0 : α) (l : Nat → List α → Int → Option (List α)) (a : List α) (g : Int → α) (hg : ∀ n : Nat, n < a.length → g n = a.getD n d0) (hb : a.length ≤ 9223372036854775807)
    (step : ∀ (k : Nat) (y : List α) (i : Int), y.length = a.length → 0 ≤ i → i < (a.length : Int) → l (k + 1) y i = l k (y.set i.toNat (g i)) (wrap64 (i + 1)))
    (stop : ∀ k y, l (k + 1) y (a.length : Int) = some y) :
    ∀ (d k n : Nat) (y : List α), y.length = a.length → n ≤ a.length → a.length - n = d → d < k → y.take n = a.take n → l k y (n : Int) = some a := by
  intro d
  induction d with
  | zero =>
    intro k n y hy hn hd hk ht
    obtain ⟨k, rfl⟩ : ∃ m, k = m + 1 := ⟨k - 1, by omega⟩
    obtain rfl : n = a.length := by omega
    rw [stop k]
    rw [List.take_length, ← hy, List.take_length] at ht
    rw [ht]
  | succ d ih =>
    intro k n y hy hn hd hk ht
    obtain ⟨k, rfl⟩ : ∃ m, k = m + 1 := ⟨k - 1, by omega⟩
    have hlt : n < a.length := by omega
    rw [step k y n hy (by omega) (by omega), wrap_id (by omega) (by omega)]
    rw [show ((n : Int) + 1) = ((n + 1 : Nat) : Int) from by omega, Int.toNat_natCast, hg n hlt]
    refine ih k (n + 1) _ (by rw [List.length_set]; exact hy) (by omega) (by omega) (by omega) ?_
    rw [List.take_succ_eq_append_getElem (by rw [List.length_set]; omega), List.take_succ_eq_append_getElem hlt]
    congr 1
    · rw [List.take_set_of_le (by omega)]
      exact ht
    · simp [List.getD, List.getElem?_eq_getElem hlt]

end Go.Proofs.Ytdahdeohmbadhaa.Loops
