/- FnExactFixColumn answers true. -/
import Derived.Test.YtdahdeohmbadhaaExFixColumn
import Derived.Test.YtdahdeohmbadhaaTFixC
namespace Go.Proofs.Ytdahdeohmbadhaa.SaidFixColumn
open Go.RowKit Go.Lib Go.Proofs Go.Proofs.YtdahdeohmbadhaaW.PrintWords Go.Proofs.YtdahdeohmbadhaaW.PrintWords.Kd Go.Proofs.YtdahdeohmbadhaaW.PrintLast Go.Proofs.YtdahdeohmbadhaaW.PrintMore Go.Proofs.Ytdahdeohmbadhaa.G Go.Proofs.Ytdahdeohmbadhaa.MarkT Go.Proofs.Ytdahdeohmbadhaa.ExT Go.Proofs.Ytdahdeohmbadhaa.ExTC Go.Proofs.Ytdahdeohmbadhaa.TFixC
theorem exact (n0 : Int) (B0 : Option Addr) (d0 : Nat) (zs0 : List Int) (A0 : Option Addr) (c0 : Nat) (gs0 : List LRow) (n1 n2 : Int) (w : World) (hB0 : Kd.C (Kd.int .i64) w B0 zs0.length zs0) (hd0 : zs0.length ≤ d0) (hC0 : Kd.C lW w A0 gs0.length gs0) (hc0 : gs0.length ≤ c0) :
    Calls Try.prog 5 #[.agg #[.int .i64 n0, .slice B0 zs0.length d0, .slice A0 gs0.length c0], .int .i64 n1, .int .i64 n2] w fun e w' => e = .returned (.bool true) ∧ Below w.heap.size w w' :=
  ExFixColumn.walk n0 B0 d0 zs0 A0 c0 gs0 (gs0.map toR) rfl n1 n2 w hB0 hd0 hC0 hc0 _ _ _ _ (fun _ => fix_small n0 zs0 (gs0.map toR) n1 n2)
    (fun _ W B d A c a1 a2 a3 a4 => specFix_calls n0 B d zs0 A c _ n1 n2 W a1 a2 a3 a4)
    (fun _ W B d A c a1 a2 a3 a4 => implFix_calls n0 B d zs0 A c _ n1 n2 W a1 a2 a3 a4)
end Go.Proofs.Ytdahdeohmbadhaa.SaidFixColumn
