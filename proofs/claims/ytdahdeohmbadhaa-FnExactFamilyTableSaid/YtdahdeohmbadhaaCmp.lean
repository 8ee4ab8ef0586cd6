/- What the printed comparisons compute. No program in sight. -/
import Derived.Test.YtdahdeohmbadhaaGb
import Derived.Test.YtdahdeohmbadhaaFam
namespace Go.Proofs.Ytdahdeohmbadhaa.Bits
open Go.RowKit Go.Proofs.YtdahdeohmbadhaaW.PrintWords Go.Proofs.YtdahdeohmbadhaaW.PrintMore Go.Proofs.Ytdahdeohmbadhaa.G Go.Proofs.Ytdahdeohmbadhaa.Fam Go.Proofs.Ytdahdeohmbadhaa.Loops
set_option linter.unusedVariables false
set_option maxRecDepth 100000

theorem compare_int (a b : Int) : cmp_Compare_int64.f a b = some (if a < b then -1 else if b < a then 1 else 0) := by
 unfold cmp_Compare_int64.f cmp_isNaN_int64.f
 simp only [Option.bind_some, bne_self_eq_false, Bool.false_eq_true, if_false]
 by_cases h1 : a < b
 ·
  simp [h1]
 ·
  by_cases h2 : b < a <;> simp [h1, h2]
theorem compare_loop (a b : List Int) (ha : a.length ≤ 9223372036854775807) : ∀ (d k n : Nat), n ≤ a.length → n ≤ b.length → a.length - n = d → d < k →
  a.take n = b.take n → slices_Compare_int64_int64.l0 k a b a (a.length : Int) (n : Int) = some (cmpL (a.drop n) (b.drop n)) := by
 intro d
 induction d with
 | zero =>
  intro k n hn hnb hd hk ht
  obtain ⟨k, rfl⟩ : ∃ m, k = m + 1 := ⟨k - 1, by omega⟩
  obtain rfl : n = a.length := by omega
  simp only [slices_Compare_int64_int64.l0]
  rw [if_neg (by omega), List.drop_length]
  by_cases h : a.length < b.length
  ·
   rw [if_pos (by omega), List.drop_eq_getElem_cons h]
   rfl
  ·
   rw [if_neg (by omega), List.drop_eq_nil_of_le (by omega)]
   rfl
 | succ d ih =>
  intro k n hn hnb hd hk ht
  obtain ⟨k, rfl⟩ : ∃ m, k = m + 1 := ⟨k - 1, by omega⟩
  have hlt : n < a.length := by omega
  simp only [slices_Compare_int64_int64.l0]
  rw [if_pos (by omega), if_pos (by omega), if_pos (by omega), List.drop_eq_getElem_cons hlt]
  by_cases h : n < b.length
  ·
   rw [if_neg (by omega), if_pos (by omega), compare_int, rd_nat, rd_nat, List.drop_eq_getElem_cons h]
   simp only [List.getD, List.getElem?_eq_getElem hlt, List.getElem?_eq_getElem h, Option.getD_some, Option.bind_some, cmpL]
   by_cases h1 : a[n] < b[n]
   ·
    simp [h1]
   ·
    by_cases h2 : b[n] < a[n]
    ·
     simp [h1, h2]
    ·
     simp only [if_neg h1, if_neg h2]
     rw [if_pos trivial, wrap_id (by omega) (by omega)]
     refine ih k (n + 1) (by omega) (by omega) (by omega) (by omega) ?_
     rw [List.take_succ_eq_append_getElem hlt, List.take_succ_eq_append_getElem h, ht, show a[n] = b[n] by omega]
  ·
   rw [if_pos (by omega), List.drop_eq_nil_of_le (show b.length ≤ n by omega)]
   rfl
theorem compare_is (a b : List Int) (k : Nat) (ha : a.length ≤ 9223372036854775807) (hk : a.length < k) : slices_Compare_int64_int64.f k a b = some (cmpL a b) := by
 unfold slices_Compare_int64_int64.f
 exact compare_loop a b ha a.length k 0 (by omega) (by omega) (by omega) hk rfl


end Go.Proofs.Ytdahdeohmbadhaa.Bits
