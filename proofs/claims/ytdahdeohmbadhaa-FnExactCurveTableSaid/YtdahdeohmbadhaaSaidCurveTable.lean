/- FnExactCurveTable answers true. -/
import Derived.Test.YtdahdeohmbadhaaExCurveTable
import Derived.Test.YtdahdeohmbadhaaTCurC
namespace Go.Proofs.Ytdahdeohmbadhaa.SaidCurveTable
open Go.RowKit Go.Lib Go.Proofs Go.Proofs.YtdahdeohmbadhaaW.PrintWords Go.Proofs.YtdahdeohmbadhaaW.PrintWords.Kd Go.Proofs.YtdahdeohmbadhaaW.PrintLast Go.Proofs.YtdahdeohmbadhaaW.PrintMore Go.Proofs.Ytdahdeohmbadhaa.G Go.Proofs.Ytdahdeohmbadhaa.MarkT Go.Proofs.Ytdahdeohmbadhaa.ExT Go.Proofs.Ytdahdeohmbadhaa.ExTC Go.Proofs.Ytdahdeohmbadhaa.TCur
theorem exact (n0 : Int) (n1 : Int) (A2 : Option Addr) (c2 : Nat) (gs2 : List Int) (w : World) (hC2 : Kd.C (Kd.int .i64) w A2 gs2.length gs2) (hc2 : gs2.length ≤ c2) :
    Calls Try.prog 10 #[.int .i64 n0, .int .i64 n1, .slice A2 gs2.length c2] w fun e w' => e = .returned (.bool true) ∧ Below w.heap.size w w' := by
  obtain ⟨b, hb1, hb2⟩ := points_both n0 gs2 hC2.2.1
  exact ExCurveTable.walk n0 n1 A2 c2 gs2 w hC2 hc2 _ _ _ _ (fun _ => cur_small b n0 n1 gs2)
    (fun _ W A c a1 a2 => specCur_calls b n0 n1 A c gs2 W a1 a2 hb2)
    (fun _ W A c a1 a2 => implCur_calls b n0 n1 A c gs2 W a1 a2 hb1)
end Go.Proofs.Ytdahdeohmbadhaa.SaidCurveTable
