/- FnExactPutFamily, by the contracts of the program's and the reference's PutFamily. -/
import Derived.Test.YtcgbogdkmliohaaExPutFamily
import Derived.Test.YtcgbogdkmliohaaSPut
import Derived.Test.YtcgbogdkmliohaaTotal
namespace Go.Proofs.Ytcgbogdkmliohaa.SaidPutFamily
open Go.RowKit Go.Proofs.YtcgbogdkmliohaaW.PrintWords Go.Proofs.YtcgbogdkmliohaaW.PrintWords.Kd Go.Proofs.Ytcgbogdkmliohaa.Fam Go.Proofs.Ytcgbogdkmliohaa.Valid Go.Proofs.Ytcgbogdkmliohaa.Ops Go.Proofs.Ytcgbogdkmliohaa.PutErr Go.Proofs.Ytcgbogdkmliohaa.SPut Go.Proofs.Ytcgbogdkmliohaa.Mark Go.Proofs.Ytcgbogdkmliohaa.Total
theorem exact (n0 : Int) (A0 : Option Addr) (c0 : Nat) (gs0 : List (List Int)) (n1 : Int) (n2 : Int) (A2 : Option Addr) (c2 : Nat) (gs2 : List (List Int)) (w : World) (hC0 : dR.C w A0 gs0.length gs0) (hc0 : gs0.length ≤ c0) (hC2 : dR.C w A2 gs2.length gs2) (hc2 : gs2.length ≤ c2) :
    Calls Try.prog 5 #[.agg #[.int .i64 n0, .slice A0 gs0.length c0], .int .i64 n1, .agg #[.int .i64 n2, .slice A2 gs2.length c2]] w fun e w' => e = .returned (.bool true) ∧ Below w.heap.size w w' :=
  ExPutFamily.walk n0 A0 c0 gs0 n1 n2 A2 c2 gs2 w hC0 hc0 hC2 hc2 (PutA n0 gs0 n1 n2 gs2).1 (PutA n0 gs0 n1 n2 gs2).2.1 (PutA n0 gs0 n1 n2 gs2).2.2 (small_total (by
    unfold PutA
    split
    · rename_i hv
      split
      · split
        · rename_i hl
          have h1 := hv.1.1
          have h2 := hv.2.1
          exact total_famN (by omega) _
        · exact Nat.zero_le _
      · exact Nat.zero_le _
    · exact Nat.zero_le _)) (fun W A0 c0 A2 c2 hC0 hc0 hC2 hc2 => SPut_calls n0 A0 c0 gs0 n1 n2 A2 c2 gs2 W hC0 hc0 hC2 hc2) (fun W A0 c0 A2 c2 hC0 hc0 hC2 hc2 => PutA_calls n0 A0 c0 gs0 n1 n2 A2 c2 gs2 W hC0 hc0 hC2 hc2)
end Go.Proofs.Ytcgbogdkmliohaa.SaidPutFamily
