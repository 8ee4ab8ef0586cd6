/- Rows of a table, as an argument reads them. -/
import Derived.Test.YtdahdeohmbadhaaRead
import Derived.Test.YtdahdeohmbadhaaExT
import Derived.ChangeSame
namespace Go.Proofs.Ytdahdeohmbadhaa.ReadT
open Go.RowKit Go.Proofs Go.Proofs.YtdahdeohmbadhaaW.PrintWords Go.Deep Go.Proofs.Ytdahdeohmbadhaa.G Go.Proofs.Ytdahdeohmbadhaa.Read Go.Proofs.Ytdahdeohmbadhaa.ExT Go.ChangeShapes Go.ChangeAt
instance : Inhabited LRow := ⟨z83⟩
theorem rb_row {H : Type} {enc : TypeId × Value → H} {w : World} {g0 : Int → Prop} {g1 : List Int → Prop} (R64 : Rb enc Try.prog w 2 (Kd.int .i64) g0) (RS : Rb enc Try.prog w 22 (Kd.slice 2 (Kd.int .i64)) g1) : Rb enc Try.prog w 83 lW (fun _ => True) :=
  ⟨by kernel_rfl, fun fuel cs x h => by
    obtain ⟨y0, y1, n, _, hl, h0, h1⟩ := trod_struct2 Try.underlying83 h
    have hc : Try.prog.cellsOf 83 = 2 := by kernel_rfl
    have hc0 : Try.prog.cellsOf 2 = 1 := by kernel_rfl
    have hc1 : Try.prog.cellsOf 22 = 1 := by kernel_rfl
    rw [hc] at hl
    simp only [hc0] at h0
    simp only [hc1] at h1
    match cs, hl with
    | [c0, c1], _ =>
      obtain ⟨a, rfl, _⟩ := int_of R64 (c := c0) h0
      obtain ⟨A, cap, l, rfl, hcap, hC, _⟩ := slice_of RS (c := c1) h1
      exact ⟨⟨a, l⟩, k83_mk _ (⟨a, l⟩ : LRow) hcap hC, trivial⟩⟩
end Go.Proofs.Ytdahdeohmbadhaa.ReadT
