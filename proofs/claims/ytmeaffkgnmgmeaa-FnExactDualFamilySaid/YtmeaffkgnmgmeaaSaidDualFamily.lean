/- FnExactDualFamily, by the contracts of the program's and the reference's DualFamily. -/
import Derived.Test.YtmeaffkgnmgmeaaExDualFamily
import Derived.Test.YtmeaffkgnmgmeaaSDual
import Derived.Test.YtmeaffkgnmgmeaaTotal
namespace Go.Proofs.Ytmeaffkgnmgmeaa.SaidDualFamily
open Go.RowKit Go.Proofs.YtmeaffkgnmgmeaaW.PrintWords Go.Proofs.YtmeaffkgnmgmeaaW.PrintWords.Kd Go.Proofs.Ytmeaffkgnmgmeaa.Fam Go.Proofs.Ytmeaffkgnmgmeaa.Valid Go.Proofs.Ytmeaffkgnmgmeaa.Ops Go.Proofs.Ytmeaffkgnmgmeaa.SDual Go.Proofs.Ytmeaffkgnmgmeaa.Mark Go.Proofs.Ytmeaffkgnmgmeaa.Total
theorem exact (n : Int) (A : Option Addr) (c : Nat) (gs : List (List Int)) (w : World) (hC : dR.C w A gs.length gs) (hc : gs.length ≤ c) :
    Calls Try.prog 12 #[.agg #[.int .i64 n, .slice A gs.length c]] w fun e w' => e = .returned (.bool true) ∧ Below w.heap.size w w' :=
  ExDualFamily.walk n A c gs w hC hc (DualF n gs).1 (DualF n gs).2.1 (DualF n gs).2.2 (small_total (by
    unfold DualF
    split
    · rename_i hv
      exact total_famN (by have := hv.1; omega) _
    · exact Nat.zero_le _)) (fun W A c hC hc => SDual_calls n A c gs W hC hc) (fun W A c hC hc => DualF_calls n A c gs _ _ _ W hC hc rfl)
end Go.Proofs.Ytmeaffkgnmgmeaa.SaidDualFamily
