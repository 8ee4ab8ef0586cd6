/- FnExactGreatestBlocked, by the contracts of the program's and the reference's GreatestBlocked. -/
import Derived.Test.YtmeaffkgnmgmeaaExGreatestBlocked
import Derived.Test.YtmeaffkgnmgmeaaSOpen
import Derived.Test.YtmeaffkgnmgmeaaTotal
namespace Go.Proofs.Ytmeaffkgnmgmeaa.SaidGreatestBlocked
open Go.RowKit Go.Proofs.YtmeaffkgnmgmeaaW.PrintWords Go.Proofs.YtmeaffkgnmgmeaaW.PrintWords.Kd Go.Proofs.Ytmeaffkgnmgmeaa.Fam Go.Proofs.Ytmeaffkgnmgmeaa.Valid Go.Proofs.Ytmeaffkgnmgmeaa.Ops Go.Proofs.Ytmeaffkgnmgmeaa.Opening Go.Proofs.Ytmeaffkgnmgmeaa.SOpen Go.Proofs.Ytmeaffkgnmgmeaa.Mark Go.Proofs.Ytmeaffkgnmgmeaa.Total
theorem exact (n : Int) (A : Option Addr) (c : Nat) (gs : List (List Int)) (w : World) (hC : dR.C w A gs.length gs) (hc : gs.length ≤ c) :
    Calls Try.prog 11 #[.agg #[.int .i64 n, .slice A gs.length c]] w fun e w' => e = .returned (.bool true) ∧ Below w.heap.size w w' :=
  ExGreatestBlocked.walk n A c gs w hC hc (BlockedF n gs).1 (BlockedF n gs).2 (small_total (by
    unfold BlockedF
    split
    · rename_i hv
      exact total_crowdsN (by have := hv.1; omega) _
    · exact Nat.zero_le _)) (fun W A c hC hc => SBlocked_calls n A c gs W hC hc) (fun W A c hC hc => BlockedF_calls n A c gs _ _ W hC hc rfl)
end Go.Proofs.Ytmeaffkgnmgmeaa.SaidGreatestBlocked
