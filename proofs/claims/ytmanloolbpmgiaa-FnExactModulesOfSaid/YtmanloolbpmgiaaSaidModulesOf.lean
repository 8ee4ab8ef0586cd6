/- FnExactModulesOf, by the contracts of the program's and the reference's ModulesOf. -/
import Derived.Test.YtmanloolbpmgiaaExModulesOf
import Derived.Test.YtmanloolbpmgiaaSModules
import Derived.Test.YtmanloolbpmgiaaTotal
namespace Go.Proofs.Ytmanloolbpmgiaa.SaidModulesOf
open Go.RowKit Go.Proofs.YtmanloolbpmgiaaW.PrintWords Go.Proofs.YtmanloolbpmgiaaW.PrintWords.Kd Go.Proofs.Ytmanloolbpmgiaa.Fam Go.Proofs.Ytmanloolbpmgiaa.Valid Go.Proofs.Ytmanloolbpmgiaa.Ops Go.Proofs.Ytmanloolbpmgiaa.Opening Go.Proofs.Ytmanloolbpmgiaa.Modules Go.Proofs.Ytmanloolbpmgiaa.SModules Go.Proofs.Ytmanloolbpmgiaa.Mark Go.Proofs.Ytmanloolbpmgiaa.Total
theorem exact (n : Int) (A : Option Addr) (c : Nat) (gs : List (List Int)) (w : World) (hC : dR.C w A gs.length gs) (hc : gs.length ≤ c) :
    Calls Try.prog 7 #[.agg #[.int .i64 n, .slice A gs.length c]] w fun e w' => e = .returned (.bool true) ∧ Below w.heap.size w w' :=
  ExModulesOf.walk n A c gs w hC hc (ModulesF n gs).1 (ModulesF n gs).2 (small_total (by
    unfold ModulesF
    split
    · rename_i hv
      exact total_crowdsN (by have := hv.1; omega) _
    · exact Nat.zero_le _)) (fun W A c hC hc => SModules_calls n A c gs W hC hc) (fun W A c hC hc => ModulesF_calls n A c gs W hC hc)
end Go.Proofs.Ytmanloolbpmgiaa.SaidModulesOf
