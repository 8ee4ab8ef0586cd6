/- FnExactGatherTable answers true. -/
import Derived.Test.YtdahdeohmbadhaaExGatherTable
import Derived.Test.YtdahdeohmbadhaaTGatherS
namespace Go.Proofs.Ytdahdeohmbadhaa.SaidGatherTable
open Go.RowKit Go.Lib Go.Proofs Go.Proofs.YtdahdeohmbadhaaW.PrintWords Go.Proofs.YtdahdeohmbadhaaW.PrintWords.Kd Go.Proofs.YtdahdeohmbadhaaW.PrintLast Go.Proofs.YtdahdeohmbadhaaW.PrintMore Go.Proofs.Ytdahdeohmbadhaa.G Go.Proofs.Ytdahdeohmbadhaa.MarkT Go.Proofs.Ytdahdeohmbadhaa.ExT Go.Proofs.Ytdahdeohmbadhaa.ExTC Go.Proofs.Ytdahdeohmbadhaa.TCmp Go.Proofs.Ytdahdeohmbadhaa.TShape Go.Proofs.Ytdahdeohmbadhaa.TMade Go.Proofs.Ytdahdeohmbadhaa.TGather
theorem exact (n0 : Int) (A1 : Option Addr) (c1 : Nat) (gs1 : List Int) (A2 : Option Addr) (c2 : Nat) (gs2 : List LRow) (w : World) (hC1 : Kd.C (Kd.int .i64) w A1 gs1.length gs1) (hc1 : gs1.length ≤ c1) (hC2 : Kd.C lW w A2 gs2.length gs2) (hc2 : gs2.length ≤ c2) :
    Calls Try.prog 3 #[.int .i64 n0, .slice A1 gs1.length c1, .slice A2 gs2.length c2] w fun e w' => e = .returned (.bool true) ∧ Below w.heap.size w w' := by
  obtain ⟨r1, rz, r2, r3, hr, hm⟩ := made_some 1 n0 gs1 (gs2.map toR)
  exact ExGatherTable.walk n0 A1 c1 gs1 A2 c2 gs2 (gs2.map toR) rfl w hC1 hc1 hC2 hc2 r1 rz r2 r3 (fun _ _ => hr)
    (fun h1 h2 W B1 d1 B2 d2 a1 a2 a3 a4 => by rw [← hm]; exact specGather_calls n0 B1 d1 gs1 B2 d2 _ h1 (fewR_of' h2) W a1 a2 a3 a4)
    (fun h1 h2 W B1 d1 B2 d2 a1 a2 a3 a4 => by rw [← hm]; exact implGather_calls n0 B1 d1 gs1 B2 d2 _ h1 (fewR_of' h2) W a1 a2 a3 a4)
end Go.Proofs.Ytdahdeohmbadhaa.SaidGatherTable
