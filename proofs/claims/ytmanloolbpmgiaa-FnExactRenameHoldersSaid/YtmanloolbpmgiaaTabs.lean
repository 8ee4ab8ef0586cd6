/- Tables that are made of predicates. -/
import Derived.Test.YtmanloolbpmgiaaRef
namespace Go.Proofs.Ytmanloolbpmgiaa.SDual
open Go.RowKit Go.Lib Go.Proofs Go.Proofs.YtmanloolbpmgiaaW.PrintWords Go.Proofs.YtmanloolbpmgiaaW.PrintWords.Kd Go.Proofs.YtmanloolbpmgiaaW.PrintLast Go.Proofs.YtmanloolbpmgiaaW.PrintMore Go.Proofs.Ytmanloolbpmgiaa.G Go.Proofs.Ytmanloolbpmgiaa.Fam Go.Proofs.Ytmanloolbpmgiaa.Loops Go.Proofs.Ytmanloolbpmgiaa.Bits Go.Proofs.Ytmanloolbpmgiaa.Sorting Go.Proofs.Ytmanloolbpmgiaa.Crowds Go.Proofs.Ytmanloolbpmgiaa.Sorted Go.Proofs.Ytmanloolbpmgiaa.Idx Go.Proofs.Ytmanloolbpmgiaa.Valid Go.Proofs.Ytmanloolbpmgiaa.FamLaw Go.Proofs.Ytmanloolbpmgiaa.Opens Go.Proofs.Ytmanloolbpmgiaa.Ops Go.Proofs.Ytmanloolbpmgiaa.From Go.Proofs.Ytmanloolbpmgiaa.Ref
set_option linter.unusedVariables false
set_option linter.unusedSimpArgs false

/-- A table that is made of a predicate. -/
def tab (p : Nat → Bool) (i : Nat) : List Bool := (List.range i).map p
theorem tab_len (p : Nat → Bool) (i : Nat) : (tab p i).length = i := by simp [tab]
theorem tab_succ (p : Nat → Bool) (i : Nat) : tab p (i + 1) = tab p i ++ [p i] := by simp [tab, List.range_succ]
theorem tab_at {p : Nat → Bool} {n c : Nat} (hc : c < n) : tb (tab p n) c = p c := by simp [tb, tab, List.getD, hc]
theorem from_tabF {n : Nat} (hn : n ≤ 7) (p : Nat → Bool) : FromF (n : Int) (tab p (2 ^ n)) = some ((n : Int), famN n p) := by
  unfold FromF
  rw [if_pos ⟨by omega, by rw [tab_len, Int.toNat_natCast]⟩, Int.toNat_natCast, famN_congr (q := p) (fun c hc => tab_at hc)]

end Go.Proofs.Ytmanloolbpmgiaa.SDual
