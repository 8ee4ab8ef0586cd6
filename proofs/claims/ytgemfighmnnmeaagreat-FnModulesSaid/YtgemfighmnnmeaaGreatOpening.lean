/- Contract of OpeningGroups. -/
import Derived.Test.YtgemfighmnnmeaaGreatCrowds
namespace Go.Proofs.YtgemfighmnnmeaaGreat.Opening
open Go.RowKit Go.Proofs.YtgemfighmnnmeaaGreatW.PrintWords Go.Proofs.YtgemfighmnnmeaaGreatW.PrintWords.Kd Go.Proofs.YtgemfighmnnmeaaGreatW.PrintLast Go.Proofs.YtgemfighmnnmeaaGreatW.PrintMore Go.Proofs.YtgemfighmnnmeaaGreat.G Go.Proofs.YtgemfighmnnmeaaGreat.Fam Go.Proofs.YtgemfighmnnmeaaGreat.Bits Go.Proofs.YtgemfighmnnmeaaGreat.Loops Go.Proofs.YtgemfighmnnmeaaGreat.Valid Go.Proofs.YtgemfighmnnmeaaGreat.Opens Go.Proofs.YtgemfighmnnmeaaGreat.Idx Go.Proofs.YtgemfighmnnmeaaGreat.Sorting Go.Proofs.YtgemfighmnnmeaaGreat.Crowds Go.Proofs.YtgemfighmnnmeaaGreat.FamOf Go.Proofs.YtgemfighmnnmeaaGreat.Ops
set_option linter.unusedVariables false
set_option linter.unusedSimpArgs false

/-- Rows and a code, as they are handed back. -/
def RowsRes (w : World) (gs : List (List Int)) (code : Int) (e : Ending) (w' : World) : Prop :=
 ∃ v, e = .returned (.tuple #[v, .int .i64 code]) ∧ Kd.S dR 27 w' w.heap.size (fun _ => True) v gs ∧ Below w.heap.size w w'



def OpeningF (n : Int) (gs : List (List Int)) : List (List Int) × Int := if ValidF n gs then (crowdsN n.toNat (openN gs), 0) else ([], 1)

end Go.Proofs.YtgemfighmnnmeaaGreat.Opening
