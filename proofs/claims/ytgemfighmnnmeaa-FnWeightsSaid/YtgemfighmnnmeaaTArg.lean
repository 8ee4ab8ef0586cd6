/- What the laws' own helpers on bytes tell. No program in sight. -/
import Derived.Test.YtgemfighmnnmeaaGx6
import Derived.Test.YtgemfighmnnmeaaFam
import Derived.Laws.BitsLemmas
namespace Go.Proofs.Ytgemfighmnnmeaa.TArg
open Go.RowKit Go.Proofs.YtgemfighmnnmeaaW.PrintWords Go.Proofs.YtgemfighmnnmeaaW.PrintMore Go.Proofs.Ytgemfighmnnmeaa.G Go.Proofs.Ytgemfighmnnmeaa.Loops
set_option linter.unusedVariables false

theorem byte_of {x : Int} (h : (Lit.int .u8 x).wf = true) : 0 ≤ x ∧ x < 256 := by
  have h2 : IntKind.u8.min ≤ x ∧ x ≤ IntKind.u8.max := by simpa [Lit.wf] using h
  have h3 : IntKind.u8.min = 0 := by decide
  have h4 : IntKind.u8.max = 255 := by decide
  omega
theorem long_is (a b : List Int) : laws_a2Long.f a b = some (decide (a.length > 3000 ∨ b.length > 3000)) := by
  unfold laws_a2Long.f
  by_cases h : (a.length : Int) > 3000
  · rw [if_pos h]; congr 1; symm; apply decide_eq_true; omega
  · rw [if_neg h]; congr 1; apply decide_eq_decide.2; omega

end Go.Proofs.Ytgemfighmnnmeaa.TArg
