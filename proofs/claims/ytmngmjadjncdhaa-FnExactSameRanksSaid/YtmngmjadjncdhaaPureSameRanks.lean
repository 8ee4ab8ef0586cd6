/- The plain law of FnExactSameRanks: what the printed functions compute answers true. No program in sight. -/
import Derived.Test.YtmngmjadjncdhaaPFnExactSameRanksx
import Derived.Test.YtmngmjadjncdhaaLoops
namespace Go.Proofs.Ytmngmjadjncdhaa.PureSameRanks
open Go.RowKit Go.Proofs.YtmngmjadjncdhaaW.PrintWords Go.Proofs.Ytmngmjadjncdhaa.PFnExactSameRanks Go.Proofs.Ytmngmjadjncdhaa.Loops

theorem same_is (a b : List Int) (k : Nat) (hb : a.length < 9223372036854775807) (hk : a.length < k) : spec_l00Same.f k a b = some (decide (a = b)) := by
  unfold spec_l00Same.f
  by_cases hl : a.length = b.length
  · rw [if_pos (by omega)]
    have := eq_loop (fun k i => spec_l00Same.l0 k a b i) a b hl hb (fun k i h0 h1 => by
      simp only [spec_l00Same.l0]
      rw [if_pos h1, if_pos h0, if_pos (by omega)]) (fun k => by simp only [spec_l00Same.l0]; rw [if_neg (by omega)]) a.length k 0 (by omega) (by omega) hk
    simpa using this
  · rw [if_neg (by omega)]
    congr 1
    symm
    apply decide_eq_false
    rintro rfl
    exact hl rfl

theorem equal_is (a b : List Int) (k : Nat) (hb : a.length < 9223372036854775807) (hk : a.length < k) : slices_Equal_int64_int64.f k a b = some (decide (a = b)) := by
  unfold slices_Equal_int64_int64.f
  by_cases hl : a.length = b.length
  · rw [if_pos (by omega)]
    have := eq_loop (fun k i => slices_Equal_int64_int64.l0 k a b (a.length : Int) i) a b hl hb (fun k i h0 h1 => by
      simp only [slices_Equal_int64_int64.l0]
      rw [if_pos h1, if_pos h0, if_pos h1, if_pos (by omega)]) (fun k => by simp only [slices_Equal_int64_int64.l0]; rw [if_neg (by omega)]) a.length k 0 (by omega) (by omega) hk
    simpa using this
  · rw [if_neg (by omega)]
    congr 1
    symm
    apply decide_eq_false
    rintro rfl
    exact hl rfl

theorem eqS_is (a b : List Int) (k : Nat) (hb : a.length < 9223372036854775807) (hk : a.length < k) : laws_eqInt64S.f k a b = some (decide (a = b)) := by
  unfold laws_eqInt64S.f
  by_cases hl : a.length = b.length
  · rw [if_pos (by omega)]
    have := eq_loop (fun k i => laws_eqInt64S.l0 k a b i) a b hl hb (fun k i h0 h1 => by
      simp only [laws_eqInt64S.l0]
      rw [if_pos h1, if_pos h0, if_pos (by omega)]) (fun k => by simp only [laws_eqInt64S.l0]; rw [if_neg (by omega)]) a.length k 0 (by omega) (by omega) hk
    simpa using this
  · rw [if_neg (by omega)]
    congr 1
    symm
    apply decide_eq_false
    rintro rfl
    exact hl rfl

theorem toS_is (a : List Int) (k : Nat) (hb : a.length ≤ 1048576) (hk : a.length < k) : laws_toInt64S.f k a = some a := by
  unfold laws_toInt64S.f
  rw [if_pos (by omega), if_pos (by omega)]
  exact copy_loop 0 (fun k y i => laws_toInt64S.l0 k a y i) a (rd a) (fun n _ => rd_nat a n) (by omega) (fun k y i hy h0 h1 => by
    simp only [laws_toInt64S.l0]
    rw [if_pos h1, if_pos h0, if_pos (by omega)]) (fun k y => by simp only [laws_toInt64S.l0]; rw [if_neg (by omega)]) a.length k 0 _ (by simp) (by omega) (by omega) hk (by simp)

theorem sz_is (l : List Int) (a : Int) (h0 : 0 ≤ a) (h1 : a ≤ 1048576) (hl : l.length ≤ 9223372036854775807) : laws_szInt64S.f l a = some (if a < l.length then -1 else a - l.length) := by
  unfold laws_szInt64S.f
  have e : wrap64 (a - (l.length : Int)) = a - l.length := wrap_id (by omega) (by omega)
  rw [e]
  by_cases h : a < (l.length : Int)
  · rw [if_pos (by omega), if_pos h]
  · rw [if_neg (by omega), if_neg h]

theorem szR_is (x y : Int) (l : List Int) (a : Int) (h0 : 0 ≤ a) (h1 : a ≤ 1048576) (hl : l.length ≤ 9223372036854775807) : laws_szRanks.f x y l a = some (if a < l.length then -1 else a - l.length) := by
  unfold laws_szRanks.f
  rw [sz_is l a h0 h1 hl]
  simp only [Option.bind_some]
  by_cases h : a < (l.length : Int)
  · rw [if_pos h, if_pos (by omega)]
  · rw [if_neg h, if_neg (by omega)]

theorem toR_is (x y : Int) (a : List Int) (k : Nat) (hb : a.length ≤ 1048576) (hk : a.length < k) : laws_toRanks.f k x y a = some (x, y, a) := by
  unfold laws_toRanks.f
  rw [toS_is a k hb hk]
  rfl

theorem eqR_is (x y : Int) (a : List Int) (k : Nat) (hb : a.length ≤ 1048576) (hk : a.length < k) : laws_eqRanks.f k x y a x y a = some true := by
  unfold laws_eqRanks.f
  rw [if_pos rfl, if_pos rfl, eqS_is a a k (by omega) hk]
  simp

theorem spec_is (x y x' y' : Int) (a b : List Int) (k : Nat) (hb : a.length ≤ 1048576) (hk : a.length < k) : spec_SameRanks.f k x y a x' y' b = some (decide (x = x') && (decide (y = y') && decide (a = b))) := by
  unfold spec_SameRanks.f
  rw [same_is a b k (by omega) hk]
  by_cases h1 : x = x' <;> by_cases h2 : y = y' <;> simp [h1, h2]

theorem impl_is (x y x' y' : Int) (a b : List Int) (k : Nat) (hb : a.length ≤ 1048576) (hk : a.length < k) : impl_SameRanks.f k x y a x' y' b = some (decide (x = x') && (decide (y = y') && decide (a = b))) := by
  unfold impl_SameRanks.f
  rw [equal_is a b k (by omega) hk]
  by_cases h1 : x = x' <;> by_cases h2 : y = y' <;> simp [h1, h2]

theorem law (x y x' y' : Int) (a b : List Int) (ha : a.length ≤ 9223372036854775807) (hb : b.length ≤ 9223372036854775807) : ∃ k, laws_FnExactSameRanks.f k x y a x' y' b = some true := by
  refine ⟨1048577 + 1, ?_⟩
  unfold laws_FnExactSameRanks.f
  rw [szR_is x y a 1048576 (by omega) (by omega) ha]
  simp only [Option.bind_some]
  by_cases h1 : (1048576 : Int) < (a.length : Int)
  · rw [if_pos h1, if_pos (by omega)]
  · rw [if_neg h1, if_neg (by omega), szR_is x' y' b _ (by omega) (by omega) hb]
    simp only [Option.bind_some]
    by_cases h2 : (1048576 - (a.length : Int) : Int) < (b.length : Int)
    · rw [if_pos h2, if_pos (by omega)]
    · rw [if_neg h2, if_neg (by omega), toR_is x y a _ (by omega) (by omega), toR_is x' y' b _ (by omega) (by omega)]
      simp only [Option.bind_some]
      rw [spec_is x y x' y' a b _ (by omega) (by omega), impl_is x y x' y' a b _ (by omega) (by omega)]
      simp only [Option.bind_some, bne_self_eq_false]
      rw [if_neg (by simp), eqR_is x y a _ (by omega) (by omega)]
      simp only [Option.bind_some, if_true]
      rw [eqR_is x' y' b _ (by omega) (by omega)]
      rfl

end Go.Proofs.Ytmngmjadjncdhaa.PureSameRanks
