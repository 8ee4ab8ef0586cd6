/- A number that depends on the bytes. No program in sight. -/
import Derived.Test.YtgemfighmnnmeaaGx6
import Derived.Test.YtgemfighmnnmeaaTArg
namespace Go.Proofs.Ytgemfighmnnmeaa.TArg
open Go.RowKit Go.Proofs.YtgemfighmnnmeaaW.PrintWords Go.Proofs.YtgemfighmnnmeaaW.PrintMore Go.Proofs.Ytgemfighmnnmeaa.G Go.Proofs.Ytgemfighmnnmeaa.Loops
set_option linter.unusedVariables false

/-- a number below n that depends on the bytes. -/
theorem at_is (l : List Int) (i n : Int) (hl : ∀ x ∈ l, (Lit.int .u8 x).wf = true) (hi : 0 ≤ i) (hn : 1 ≤ n) : ∃ r, laws_a2At.f l i n = some r ∧ 0 ≤ r ∧ r < n := by
  unfold laws_a2At.f
  by_cases h : i ≥ (l.length : Int)
  · exact ⟨0, by rw [if_pos h], by omega, by omega⟩
  · rw [if_neg h, if_neg (by omega), if_pos hi, if_pos (by omega), if_neg (by omega)]
    have hx := byte_of (hl (rd l i) (by
      unfold rd
      rw [List.getD_eq_getElem?_getD, List.getElem?_eq_getElem (by omega)]
      exact List.getElem_mem _))
    rw [wrap_id (by omega) (by omega)]
    refine ⟨_, rfl, ?_, ?_⟩
    · rw [Int.tmod_eq_emod_of_nonneg hx.1]; exact Int.emod_nonneg _ (by omega)
    · rw [Int.tmod_eq_emod_of_nonneg hx.1]; exact Int.emod_lt_of_pos _ (by omega)

end Go.Proofs.Ytgemfighmnnmeaa.TArg
