/- FnExactFamilyOf, by the contracts of the program's and the reference's FamilyOf. -/
import Derived.Test.YtmeaffkgnmgmeaaExFamilyOf
import Derived.Test.YtmeaffkgnmgmeaaSFamilyOf
import Derived.Test.YtmeaffkgnmgmeaaTotal
namespace Go.Proofs.Ytmeaffkgnmgmeaa.SaidFamilyOf
open Go.RowKit Go.Proofs.YtmeaffkgnmgmeaaW.PrintWords Go.Proofs.YtmeaffkgnmgmeaaW.PrintWords.Kd Go.Proofs.Ytmeaffkgnmgmeaa.Fam Go.Proofs.Ytmeaffkgnmgmeaa.Valid Go.Proofs.Ytmeaffkgnmgmeaa.Ops Go.Proofs.Ytmeaffkgnmgmeaa.FamilyOf Go.Proofs.Ytmeaffkgnmgmeaa.SFamilyOf Go.Proofs.Ytmeaffkgnmgmeaa.Mark Go.Proofs.Ytmeaffkgnmgmeaa.Total
theorem exact (n0 : Int) (A1 : Option Addr) (c1 : Nat) (gs1 : List (List Int)) (w : World) (hC1 : dR.C w A1 gs1.length gs1) (hc1 : gs1.length ≤ c1) :
    Calls Try.prog 5 #[.int .i64 n0, .slice A1 gs1.length c1] w fun e w' => e = .returned (.bool true) ∧ Below w.heap.size w w' :=
  ExFamilyOf.walk n0 A1 c1 gs1 w hC1 hc1 (FamilyOfF n0 gs1).1 (FamilyOfF n0 gs1).2.1 (FamilyOfF n0 gs1).2.2 (small_total (by
    unfold FamilyOfF
    split
    · rename_i hv
      exact total_famN (by have := hv.1; omega) _
    · exact Nat.zero_le _)) (fun W A c hC hc => SFamilyOf_calls n0 A c gs1 W hC hc) (fun W A c hC hc => FamilyOfF_calls n0 A c gs1 W hC hc)
end Go.Proofs.Ytmeaffkgnmgmeaa.SaidFamilyOf
