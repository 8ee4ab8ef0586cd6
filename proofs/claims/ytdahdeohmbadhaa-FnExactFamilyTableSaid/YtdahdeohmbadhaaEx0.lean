/- What the exact laws' own helpers on a row of numbers tell: sizes, copies, comparisons, marks that are held. -/
import Derived.Test.YtdahdeohmbadhaaMarkT
import Derived.Test.YtdahdeohmbadhaaGx7
import Derived.Test.YtdahdeohmbadhaaGx7
import Derived.Test.YtdahdeohmbadhaaGx7
import Derived.Test.YtdahdeohmbadhaaGx8
namespace Go.Proofs.Ytdahdeohmbadhaa.ExF
open Go.RowKit Go.Lib Go.Proofs Go.Proofs.YtdahdeohmbadhaaW.PrintWords Go.Proofs.YtdahdeohmbadhaaW.PrintWords.Kd Go.Proofs.YtdahdeohmbadhaaW.PrintLast Go.Proofs.YtdahdeohmbadhaaW.PrintMore Go.Proofs.Ytdahdeohmbadhaa.G Go.Proofs.Ytdahdeohmbadhaa.Loops Go.Proofs.Ytdahdeohmbadhaa.Mark
set_option linter.unusedVariables false
set_option linter.unusedSimpArgs false

theorem szS_is (l : List Int) (a : Int) (h0 : 0 ≤ a) (h1 : a ≤ 1048576) (hl : l.length ≤ 9223372036854775807) : laws_szInt64S.f l a = some (if a < l.length then -1 else a - l.length) := by
 unfold laws_szInt64S.f
 have e : wrap64 (a - (l.length : Int)) = a - l.length := wrap_id (by omega) (by omega)
 rw [e]
 by_cases h : a < (l.length : Int)
 ·
  rw [if_pos (by omega), if_pos h]
 ·
  rw [if_neg (by omega), if_neg h]
theorem toS_is (a : List Int) (k : Nat) (hb : a.length ≤ 1048576) (hk : a.length < k) : laws_toInt64S.f k a = some a := by
 unfold laws_toInt64S.f
 rw [if_pos (by omega), if_pos (by omega)]
 exact copy_loop 0 (fun k y i => laws_toInt64S.l0 k a y i) a (rd a) (fun n _ => rd_nat a n) (by omega) (fun k y i hy h0 h1 => by
  simp only [laws_toInt64S.l0]
  rw [if_pos h1, if_pos h0, if_pos (by omega)]) (fun k y => by simp only [laws_toInt64S.l0]; rw [if_neg (by omega)]) a.length k 0 _ (by simp) (by omega) (by omega) hk (by simp)
theorem eqS_is (a b : List Int) (k : Nat) (hb : a.length ≤ 9223372036854775807) (hk : a.length < k) : laws_eqInt64S.f k a b = some (decide (a = b)) := by
 unfold laws_eqInt64S.f
 by_cases hl : a.length = b.length
 ·
  rw [if_pos (by omega)]
  have := eq_loop (fun k i => laws_eqInt64S.l0 k a b i) a b hl hb (fun k i h0 h1 => by
   simp only [laws_eqInt64S.l0]
   rw [if_pos h1, if_pos h0, if_pos (by omega)]) (fun k => by simp only [laws_eqInt64S.l0]; rw [if_neg (by omega)]) a.length k 0 (by omega) (by omega) hk
  simpa using this
 ·
  rw [if_neg (by omega)]
  congr 1
  symm
  apply decide_eq_false
  rintro rfl
  exact hl rfl
theorem heldS_loop (n : Nat) (k0 : Int) (h0 : 0 ≤ k0) (hk0 : k0 + n < 9223372036854775807) : ∀ (d j : Nat), j ≤ n → n - j = d → Ev (fun k => laws_heldInt64S.l0 k (upL n k0) (k0 + j) (j : Int)) (k0 + n) := by
 intro d
 induction d with
 | zero =>
  intro j hj hd
  obtain rfl : j = n := by omega
  exact Ev.step (f := fun _ => some (k0 + (j : Int))) (fun k => by simp only [laws_heldInt64S.l0]; rw [if_neg (by rw [upL_len]; omega)]) (Ev.now _)
 | succ d ih =>
  intro j hj hd
  have h1 := ih (j + 1) (by omega) (by omega)
  refine Ev.step (fun k => ?_) h1
  simp only [laws_heldInt64S.l0]
  rw [if_pos (by rw [upL_len]; omega), if_pos (by omega), rd_nat, upL_get n k0 j (by omega), if_pos rfl, wrap_id (by omega) (by omega), wrap_id (by omega) (by omega)]
  congr 1
  omega
theorem heldS_is (n : Nat) (k0 : Int) (h0 : 0 ≤ k0) (hk0 : k0 + n < 9223372036854775807) : Ev (fun k => laws_heldInt64S.f k (upL n k0) k0) (k0 + n) := by
 have := heldS_loop n k0 h0 hk0 n 0 (by omega) (by omega)
 show Ev (fun k => laws_heldInt64S.l0 k (upL n k0) k0 0) _
 simpa using this

end Go.Proofs.Ytdahdeohmbadhaa.ExF
