/- FnExactRenameColumns answers true. -/
import Derived.Test.YtdahdeohmbadhaaExRenameColumns
import Derived.Test.YtdahdeohmbadhaaTRcolP
namespace Go.Proofs.Ytdahdeohmbadhaa.SaidRenameColumns
open Go.RowKit Go.Lib Go.Proofs Go.Proofs.YtdahdeohmbadhaaW.PrintWords Go.Proofs.YtdahdeohmbadhaaW.PrintWords.Kd Go.Proofs.YtdahdeohmbadhaaW.PrintLast Go.Proofs.YtdahdeohmbadhaaW.PrintMore Go.Proofs.Ytdahdeohmbadhaa.G Go.Proofs.Ytdahdeohmbadhaa.MarkT Go.Proofs.Ytdahdeohmbadhaa.ExT Go.Proofs.Ytdahdeohmbadhaa.ExTC Go.Proofs.Ytdahdeohmbadhaa.TRcol
theorem exact (n0 : Int) (B0 : Option Addr) (d0 : Nat) (zs0 : List Int) (A0 : Option Addr) (c0 : Nat) (gs0 : List LRow) (A1 : Option Addr) (c1 : Nat) (gs1 : List Int) (w : World) (hB0 : Kd.C (Kd.int .i64) w B0 zs0.length zs0) (hd0 : zs0.length ≤ d0) (hC0 : Kd.C lW w A0 gs0.length gs0) (hc0 : gs0.length ≤ c0) (hC1 : Kd.C (Kd.int .i64) w A1 gs1.length gs1) (hc1 : gs1.length ≤ c1) :
    Calls Try.prog 9 #[.agg #[.int .i64 n0, .slice B0 zs0.length d0, .slice A0 gs0.length c0], .slice A1 gs1.length c1] w fun e w' => e = .returned (.bool true) ∧ Below w.heap.size w w' :=
  ExRenameColumns.walk n0 B0 d0 zs0 A0 c0 gs0 (gs0.map toR) rfl A1 c1 gs1 w hB0 hd0 hC0 hc0 hC1 hc1 _ _ _ _ (fun _ _ => ren_small n0 zs0 (gs0.map toR) gs1)
    (fun _ _ W B d A c A1 c1 a1 a2 a3 a4 a5 a6 => specRen_calls n0 B d zs0 A c _ A1 c1 gs1 W a1 a2 a3 a4 a5 a6)
    (fun _ _ W B d A c A1 c1 a1 a2 a3 a4 a5 a6 => implRen_calls n0 B d zs0 A c _ A1 c1 gs1 W a1 a2 a3 a4 a5 a6)
end Go.Proofs.Ytdahdeohmbadhaa.SaidRenameColumns
