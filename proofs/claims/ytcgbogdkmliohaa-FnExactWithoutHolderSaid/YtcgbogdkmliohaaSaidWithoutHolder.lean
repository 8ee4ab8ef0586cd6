/- FnExactWithoutHolder, by the contracts of the program's and the reference's WithoutHolder. -/
import Derived.Test.YtcgbogdkmliohaaExWithoutHolder
import Derived.Test.YtcgbogdkmliohaaSMinor
import Derived.Test.YtcgbogdkmliohaaTotal
namespace Go.Proofs.Ytcgbogdkmliohaa.SaidWithoutHolder
open Go.RowKit Go.Proofs.YtcgbogdkmliohaaW.PrintWords Go.Proofs.YtcgbogdkmliohaaW.PrintWords.Kd Go.Proofs.Ytcgbogdkmliohaa.Fam Go.Proofs.Ytcgbogdkmliohaa.Valid Go.Proofs.Ytcgbogdkmliohaa.Ops Go.Proofs.Ytcgbogdkmliohaa.Leave Go.Proofs.Ytcgbogdkmliohaa.SMinor Go.Proofs.Ytcgbogdkmliohaa.Mark Go.Proofs.Ytcgbogdkmliohaa.Total
theorem exact (n0 : Int) (A0 : Option Addr) (c0 : Nat) (gs0 : List (List Int)) (n1 : Int) (w : World) (hC0 : dR.C w A0 gs0.length gs0) (hc0 : gs0.length ≤ c0) :
    Calls Try.prog 4 #[.agg #[.int .i64 n0, .slice A0 gs0.length c0], .int .i64 n1] w fun e w' => e = .returned (.bool true) ∧ Below w.heap.size w w' :=
  ExWithoutHolder.walk n0 A0 c0 gs0 n1 w hC0 hc0 (LeaveF n0 gs0 n1 0).1 (LeaveF n0 gs0 n1 0).2.1 (LeaveF n0 gs0 n1 0).2.2 (small_total (by
    unfold LeaveF
    split
    · rename_i hv
      have h7 : (n0 - 1).toNat ≤ 7 := by have := hv.1; omega
      split
      · split
        · exact Nat.zero_le _
        · exact total_famN h7 _
      · exact Nat.zero_le _
    · exact Nat.zero_le _)) (fun W A c hC hc => SWithoutHolder_calls n0 A c gs0 n1 W hC hc) (fun W A c hC hc => WithoutHolderF_calls n0 A c gs0 n1 _ _ _ W hC hc rfl)
end Go.Proofs.Ytcgbogdkmliohaa.SaidWithoutHolder
