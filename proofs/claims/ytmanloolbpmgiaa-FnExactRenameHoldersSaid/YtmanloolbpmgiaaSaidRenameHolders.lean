/- FnExactRenameHolders, by the contracts of the program's and the reference's RenameHolders. -/
import Derived.Test.YtmanloolbpmgiaaExRenameHolders
import Derived.Test.YtmanloolbpmgiaaSRen
import Derived.Test.YtmanloolbpmgiaaTotal
namespace Go.Proofs.Ytmanloolbpmgiaa.SaidRenameHolders
open Go.RowKit Go.Proofs.YtmanloolbpmgiaaW.PrintWords Go.Proofs.YtmanloolbpmgiaaW.PrintWords.Kd Go.Proofs.Ytmanloolbpmgiaa.Fam Go.Proofs.Ytmanloolbpmgiaa.Valid Go.Proofs.Ytmanloolbpmgiaa.Ops Go.Proofs.Ytmanloolbpmgiaa.Order Go.Proofs.Ytmanloolbpmgiaa.RenF Go.Proofs.Ytmanloolbpmgiaa.SRen Go.Proofs.Ytmanloolbpmgiaa.Mark Go.Proofs.Ytmanloolbpmgiaa.Total
theorem exact (n0 : Int) (A0 : Option Addr) (c0 : Nat) (gs0 : List (List Int)) (A1 : Option Addr) (c1 : Nat) (gs1 : List Int) (w : World) (hC0 : dR.C w A0 gs0.length gs0) (hc0 : gs0.length ≤ c0) (hC1 : Kd.C (Kd.int .i64) w A1 gs1.length gs1) (hc1 : gs1.length ≤ c1) :
    Calls Try.prog 6 #[.agg #[.int .i64 n0, .slice A0 gs0.length c0], .slice A1 gs1.length c1] w fun e w' => e = .returned (.bool true) ∧ Below w.heap.size w w' :=
  ExRenameHolders.walk n0 A0 c0 gs0 A1 c1 gs1 w hC0 hc0 hC1 hc1 (RenRes n0 gs0 gs1).1 (RenRes n0 gs0 gs1).2.1 (RenRes n0 gs0 gs1).2.2 (small_total (by
    unfold RenRes
    by_cases hv : ValidF n0 gs0
    · rw [if_pos hv]
      by_cases ho : OrderOk n0 gs1
      · rw [if_pos ho]
        exact total_famN (by have := hv.1; omega) _
      · rw [if_neg ho]
        exact Nat.zero_le _
    · rw [if_neg hv]
      exact Nat.zero_le _)) (fun W A c A' c' hC hc hC' hc' => SRenameHolders_calls n0 A c gs0 A' c' gs1 W hC hc hC' hc') (fun W A c A' c' hC hc hC' hc' => RenameHolders_calls n0 A c gs0 A' c' gs1 W hC hc hC' hc')
end Go.Proofs.Ytmanloolbpmgiaa.SaidRenameHolders
