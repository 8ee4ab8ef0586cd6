/- FnExactRenameColumns, for every input, returns true: the program's RenameColumns returns what the reference's returns. No condition beyond the row's own. -/
import Derived.Test.YtdahdeohmbadhaaRows
import Derived.Test.YtdahdeohmbadhaaSaidRenameColumns
import Derived.Test.YtdahdeohmbadhaaReadT
import Derived.WalkKit
import Derived.ProofKit
import Derived.OpenShut
import Derived.ShutString
import Derived.ChangeOld
import Derived.Below
import Derived.SizedLaws
import Derived.Lib.SmallJoins
import Derived.Carry
namespace Go.Proofs.Ytdahdeohmbadhaa.fnExactRenameColumns
open Go.ChangeShapes Go.WideShapes Go.ChangeAt Go.RowKit Go.Joins
open Go.Proofs.YtdahdeohmbadhaaW.PrintWords Go.Proofs.Ytdahdeohmbadhaa.Read Go.Proofs.Ytdahdeohmbadhaa.ReadT
set_option linter.unusedVariables false
theorem own : ownKnob Try.prog.godebug = none := by kernel_rfl
theorem laidOut : laidOutB Try.prog = true := by kernel_rfl
theorem cells_st : Try.prog.cellsOf 40 = 3 := by kernel_rfl
set_option maxRecDepth 100000 in
theorem lifted (os : Os) (started : os.Started) (H : Type) (enc : TypeId × Value → H) :
    ReturnsInHanded {} Try.checked os 9 .any (Rows.fnExactRenameColumnsSpec.pre6 enc Try.prog Try.f9 Rows.fnExactRenameColumnsRow.domain false) (Rows.fnExactRenameColumnsSpec.post enc Try.prog Try.f9 false true false false) := by
  refine returnsInHanded_of_change_sized (C := Try.checked) own started (by kernel_rfl) Try.func9
    (ChangeSpec.witness6 (enc := enc) (C := Try.checked) false ⟨#[], #[.agg #[.int .i64 0, .slice none 0 0, .slice none 0 0], .slice none 0 0], []⟩ 8 (by kernel_rfl) (by kernel_rfl) (by kernel_rfl) (by kernel_rfl)) ?_
  intro W base args ds gs before hval0 hW hcnd hsz0 _
  have hval : ∀ (j : Nat) t v, Try.f9.params[j]? = some t → args[j]? = some v → Value.okWide Try.prog W .any base t v := hval0
  have hW' := hW
  obtain ⟨p, q, hA0, hV, rfl, hfz, hnd⟩ := hW
  have hA : DataW.TrodAll enc Try.prog W 0 (fun _ => true) true Try.f9.params.toList args.toList ds p := hA0
  rw [Try.params9] at hA hval
  obtain ⟨v0, vs0, d0, ds0, p0, q0, hargs, rfl, rfl, h0, r0⟩ := trodAll_cons hA
  obtain ⟨v1, vs1, d1, ds1, p1, q1, rfl, rfl, rfl, h1, r1⟩ := trodAll_cons r0
  obtain ⟨rfl, rfl, rfl⟩ := trodAll_nil r1
  obtain rfl : args = #[v0, v1] := by cases args; simp_all
  obtain ⟨rfl, rfl⟩ := trodVars_none hV
  have R64 : Rb enc Try.prog W 2 (Kd.int .i64) _ := rb_int Try.underlying2 (by kernel_rfl)
  have RS : Rb enc Try.prog W 22 (Kd.slice 2 (Kd.int .i64)) _ := rb_slice Try.underlying22 (by kernel_rfl) R64
  have RSS : Rb enc Try.prog W 23 (Kd.slice 83 Go.Proofs.Ytdahdeohmbadhaa.ExT.lW) _ := rb_slice Try.underlying23 (by kernel_rfl) (rb_row R64 RS)
  have lt0 : ∀ x ∈ p0, x.block < W.heap.size := by obtain ⟨m, hm⟩ := h0; exact DataW.trod_lt m _ _ _ hm
  have k0 := h0
  obtain ⟨c00, c01, c02, y00, y01, y02, m0, rfl, rfl, rfl, hy00, hy01, hy02⟩ := open_agg3 Try.underlying40 (by kernel_rfl) cells_st (hval 0 40 v0 rfl rfl) h0
  obtain ⟨n0, rfl, _⟩ := int_of R64 hy00
  obtain ⟨B0, dap0, zs0, rfl, hd0, hB0, _⟩ := slice_of RS hy01
  obtain ⟨A0, cap0, gs0, rfl, hc0, hC0, _⟩ := slice_of RSS hy02
  have lt1 : ∀ x ∈ p1, x.block < W.heap.size := by obtain ⟨m, hm⟩ := h1; exact DataW.trod_lt m _ _ _ hm
  have k1 := h1
  obtain ⟨a1, len1, cp1, rfl⟩ := okWide_slice Try.underlying22 (hval 1 22 v1 rfl rfl)
  obtain ⟨fuel1, hf1⟩ := h1
  obtain ⟨A1, cap1, gs1, he1, hc1, hC1, _⟩ := slice_of RS (c := .slice a1 len1 cp1) hf1
  obtain ⟨rfl, rfl, rfl⟩ : a1 = A1 ∧ len1 = gs1.length ∧ cp1 = cap1 := by simpa using he1
  clear hA0 hval0 hsz0
  refine (SaidRenameColumns.exact n0 B0 dap0 zs0 A0 cap0 gs0 _ _ gs1 W hB0 hd0 hC0 hc0 hC1 hc1).mono fun e W' ⟨he, bel⟩ => ?_
  subst he
  exact ⟨_, rfl, _, _, _, [], _, [], hW', trodAll_mk1 (shut_bool Try.underlying4 _), (trodAll_cons_mk (Below.trod laidOut (by kernel_rfl) (of_decide_eq_true (by kernel_rfl)) k0 bel lt0) (trodAll_cons_mk (Below.trod laidOut (by kernel_rfl) (of_decide_eq_true (by kernel_rfl)) k1 bel lt1) trodAll_mk0)), rfl, bel.frame _, fun h => by cases h⟩
theorem a1 : Try.pinned.checked.prog.funcNamed Rows.fnExactRenameColumnsRow.func = some 9 := by kernel_rfl
theorem and_ {a b : Bool} (h1 : a = true) (h2 : b = true) : (a && b) = true := by rw [h1, h2]; rfl
theorem jA : (Rows.fnExactRenameColumnsRow.wf (OpenSpec.ofChange Rows.fnExactRenameColumnsSpec) && laidOutB Try.pinned.checked.prog && mapsRowed Try.pinned.checked.prog && Try.f9.params.all (Try.pinned.checked.prog.readableRec ·) && namedTie Try.pinned.checked.prog Rows.fnExactRenameColumnsRow.named Rows.fnExactRenameColumnsSpec.vars && (Rows.fnExactRenameColumnsRow.stops == []) && (Try.pinned.checked.prog.stops == []) && (Rows.fnExactRenameColumnsRow.knobs == []) && (Try.pinned.checked.prog.stopKnobs == [])) = true := by kernel_rfl
theorem jinPlace : (Rows.fnExactRenameColumnsRow.inPlace == Try.pinned.checked.prog.inPlace 9) = true := by kernel_rfl
theorem junfollowed : (Rows.fnExactRenameColumnsRow.unfollowed == Try.pinned.checked.prog.unfollowed 9) = true := by kernel_rfl
theorem jrecurses : (Rows.fnExactRenameColumnsRow.recurses == Try.pinned.checked.prog.recurses 9) = true := by kernel_rfl
theorem jnamed : (Rows.fnExactRenameColumnsRow.named == Try.pinned.checked.prog.varsNamed 9) = true := by kernel_rfl
theorem a2 : joinedFacts Try.pinned.checked.prog 9 Try.f9 Rows.fnExactRenameColumnsSpec Rows.fnExactRenameColumnsRow = true := and_ (and_ (and_ (and_ (and_ (and_ (and_ (and_ (and_ (and_ (and_ (and_ (and_ (and_ (and_ (and_ (and_ (and_ (and_ (and_ (and_ (and_ (and_ jA jinPlace) junfollowed) jrecurses) jnamed) (by kernel_rfl)) (by kernel_rfl)) (by kernel_rfl)) (by kernel_rfl)) (by kernel_rfl)) (by kernel_rfl)) (by kernel_rfl)) (by kernel_rfl)) (by kernel_rfl)) (by kernel_rfl)) (by kernel_rfl)) (by kernel_rfl)) (by kernel_rfl)) (by kernel_rfl)) (by kernel_rfl)) (by kernel_rfl)) (by kernel_rfl)) (by kernel_rfl)) (by kernel_rfl)
theorem a3 : Try.f9.isInstance Try.pinned.checked.prog Rows.fnExactRenameColumnsRow.origin Rows.fnExactRenameColumnsRow.targs := of_decide_eq_true (by kernel_rfl)
theorem a4 : Try.f9.isWrapper Try.pinned.checked.prog Rows.fnExactRenameColumnsRow.wrapper Rows.fnExactRenameColumnsRow.mainSum := by unfold Func.isWrapper; first | (rw [if_pos (by decide +kernel)]; kernel_rfl) | (rw [if_neg (by decide +kernel)]; exact ⟨rfl, rfl⟩)
theorem over : Rows.fnExactRenameColumnsRow.holds Try.pinned (OpenSpec.ofChange Rows.fnExactRenameColumnsSpec) :=
  OpenClaim.holds_of_wide 9 Try.f9 rfl rfl rfl rfl rfl rfl rfl ⟨rfl, rfl, rfl, rfl, rfl⟩ rfl rfl rfl rfl rfl a1 Try.func9 a2 a3 a4
    (fun os started H enc _ => lifted os started H enc)
theorem proved : Rows.FnExactRenameColumnsSaid := over
#print axioms proved
end Go.Proofs.Ytdahdeohmbadhaa.fnExactRenameColumns
namespace Go.Proofs.Ytdahdeohmbadhaa
/-- The row, under a short name, for the claim. -/
theorem fnExactRenameColumns_holds : Rows.FnExactRenameColumnsSaid := fnExactRenameColumns.proved
end Go.Proofs.Ytdahdeohmbadhaa
