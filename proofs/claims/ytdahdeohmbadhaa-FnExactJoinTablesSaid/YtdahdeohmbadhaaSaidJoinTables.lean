/- FnExactJoinTables answers true. -/
import Derived.Test.YtdahdeohmbadhaaExJoinTables
import Derived.Test.YtdahdeohmbadhaaTJoinC
namespace Go.Proofs.Ytdahdeohmbadhaa.SaidJoinTables
open Go.RowKit Go.Lib Go.Proofs Go.Proofs.YtdahdeohmbadhaaW.PrintWords Go.Proofs.YtdahdeohmbadhaaW.PrintWords.Kd Go.Proofs.YtdahdeohmbadhaaW.PrintLast Go.Proofs.YtdahdeohmbadhaaW.PrintMore Go.Proofs.Ytdahdeohmbadhaa.G Go.Proofs.Ytdahdeohmbadhaa.MarkT Go.Proofs.Ytdahdeohmbadhaa.ExT Go.Proofs.Ytdahdeohmbadhaa.ExTC Go.Proofs.Ytdahdeohmbadhaa.TJoin
theorem exact (n0 : Int) (B0 : Option Addr) (d0 : Nat) (zs0 : List Int) (A0 : Option Addr) (c0 : Nat) (gs0 : List LRow) (n1 : Int) (B1 : Option Addr) (d1 : Nat) (zs1 : List Int) (A1 : Option Addr) (c1 : Nat) (gs1 : List LRow) (w : World) (hB0 : Kd.C (Kd.int .i64) w B0 zs0.length zs0) (hd0 : zs0.length ≤ d0) (hC0 : Kd.C lW w A0 gs0.length gs0) (hc0 : gs0.length ≤ c0) (hB1 : Kd.C (Kd.int .i64) w B1 zs1.length zs1) (hd1 : zs1.length ≤ d1) (hC1 : Kd.C lW w A1 gs1.length gs1) (hc1 : gs1.length ≤ c1) :
    Calls Try.prog 8 #[.agg #[.int .i64 n0, .slice B0 zs0.length d0, .slice A0 gs0.length c0], .agg #[.int .i64 n1, .slice B1 zs1.length d1, .slice A1 gs1.length c1]] w fun e w' => e = .returned (.bool true) ∧ Below w.heap.size w w' :=
  ExJoinTables.walk n0 B0 d0 zs0 A0 c0 gs0 (gs0.map toR) rfl n1 B1 d1 zs1 A1 c1 gs1 (gs1.map toR) rfl w hB0 hd0 hC0 hc0 hB1 hd1 hC1 hc1 _ _ _ _ (fun _ _ => join_small n0 zs0 (gs0.map toR) n1 zs1 (gs1.map toR))
    (fun _ _ W B d A c B' d' A' c' a1 a2 a3 a4 a5 a6 a7 a8 => specJoin_calls n0 B d zs0 A c _ n1 B' d' zs1 A' c' _ W a1 a2 a3 a4 a5 a6 a7 a8)
    (fun _ _ W B d A c B' d' A' c' a1 a2 a3 a4 a5 a6 a7 a8 => implJoin_calls n0 B d zs0 A c _ n1 B' d' zs1 A' c' _ W a1 a2 a3 a4 a5 a6 a7 a8)
end Go.Proofs.Ytdahdeohmbadhaa.SaidJoinTables
