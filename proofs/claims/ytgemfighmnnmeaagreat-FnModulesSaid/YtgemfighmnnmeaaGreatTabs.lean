/- Tables that are made of predicates. -/
import Derived.Test.YtgemfighmnnmeaaGreatRef
namespace Go.Proofs.YtgemfighmnnmeaaGreat.SDual
open Go.RowKit Go.Lib Go.Proofs Go.Proofs.YtgemfighmnnmeaaGreatW.PrintWords Go.Proofs.YtgemfighmnnmeaaGreatW.PrintWords.Kd Go.Proofs.YtgemfighmnnmeaaGreatW.PrintLast Go.Proofs.YtgemfighmnnmeaaGreatW.PrintMore Go.Proofs.YtgemfighmnnmeaaGreat.G Go.Proofs.YtgemfighmnnmeaaGreat.Fam Go.Proofs.YtgemfighmnnmeaaGreat.Loops Go.Proofs.YtgemfighmnnmeaaGreat.Bits Go.Proofs.YtgemfighmnnmeaaGreat.Sorting Go.Proofs.YtgemfighmnnmeaaGreat.Crowds Go.Proofs.YtgemfighmnnmeaaGreat.Sorted Go.Proofs.YtgemfighmnnmeaaGreat.Idx Go.Proofs.YtgemfighmnnmeaaGreat.Valid Go.Proofs.YtgemfighmnnmeaaGreat.FamLaw Go.Proofs.YtgemfighmnnmeaaGreat.Opens Go.Proofs.YtgemfighmnnmeaaGreat.Ops Go.Proofs.YtgemfighmnnmeaaGreat.From Go.Proofs.YtgemfighmnnmeaaGreat.Ref
set_option linter.unusedVariables false
set_option linter.unusedSimpArgs false

/-- A table that is made of a predicate. -/
def tab (p : Nat → Bool) (i : Nat) : List Bool := (List.range i).map p
theorem tab_len (p : Nat → Bool) (i : Nat) : (tab p i).length = i := by simp [tab]
theorem tab_succ (p : Nat → Bool) (i : Nat) : tab p (i + 1) = tab p i ++ [p i] := by simp [tab, List.range_succ]
theorem tab_at {p : Nat → Bool} {n c : Nat} (hc : c < n) : tb (tab p n) c = p c := by simp [tb, tab, List.getD, hc]
theorem from_tabF {n : Nat} (hn : n ≤ 7) (p : Nat → Bool) : FromF (n : Int) (tab p (2 ^ n)) = some ((n : Int), famN n p) := by
 unfold FromF
 rw [if_pos ⟨by omega, by rw [tab_len, Int.toNat_natCast]⟩, Int.toNat_natCast, famN_congr (q := p) (fun c hc => tab_at hc)]

end Go.Proofs.YtgemfighmnnmeaaGreat.SDual
