/- FnExactCurveTable, for every input, returns true: the program's CurveTable returns what the reference's returns. No condition beyond the row's own. -/
import Derived.Test.YtdahdeohmbadhaaRows
import Derived.Test.YtdahdeohmbadhaaSaidCurveTable
import Derived.Test.YtdahdeohmbadhaaReadT
import Derived.WalkKit
import Derived.ProofKit
import Derived.OpenShut
import Derived.ShutString
import Derived.ChangeOld
import Derived.Below
import Derived.SizedLaws
import Derived.Lib.SmallJoins
import Derived.Carry
namespace Go.Proofs.Ytdahdeohmbadhaa.fnExactCurveTable
open Go.ChangeShapes Go.WideShapes Go.ChangeAt Go.RowKit Go.Joins
open Go.Proofs.YtdahdeohmbadhaaW.PrintWords Go.Proofs.Ytdahdeohmbadhaa.Read Go.Proofs.Ytdahdeohmbadhaa.ReadT
set_option linter.unusedVariables false
theorem own : ownKnob Try.prog.godebug = none := by kernel_rfl
theorem laidOut : laidOutB Try.prog = true := by kernel_rfl
set_option maxRecDepth 100000 in
theorem lifted (os : Os) (started : os.Started) (H : Type) (enc : TypeId × Value → H) :
    ReturnsInHanded {} Try.checked os 10 .any (Rows.fnExactCurveTableSpec.pre6 enc Try.prog Try.f10 Rows.fnExactCurveTableRow.domain false) (Rows.fnExactCurveTableSpec.post enc Try.prog Try.f10 false true false false) := by
  refine returnsInHanded_of_change_sized (C := Try.checked) own started (by kernel_rfl) Try.func10
    (ChangeSpec.witness6 (enc := enc) (C := Try.checked) false ⟨#[], #[.int .i64 0, .int .i64 0, .slice none 0 0], []⟩ 8 (by kernel_rfl) (by kernel_rfl) (by kernel_rfl) (by kernel_rfl)) ?_
  intro W base args ds gs before hval0 hW hcnd hsz0 _
  have hval : ∀ (j : Nat) t v, Try.f10.params[j]? = some t → args[j]? = some v → Value.okWide Try.prog W .any base t v := hval0
  have hW' := hW
  obtain ⟨p, q, hA0, hV, rfl, hfz, hnd⟩ := hW
  have hA : DataW.TrodAll enc Try.prog W 0 (fun _ => true) true Try.f10.params.toList args.toList ds p := hA0
  rw [Try.params10] at hA hval
  obtain ⟨v0, vs0, d0, ds0, p0, q0, hargs, rfl, rfl, h0, r0⟩ := trodAll_cons hA
  obtain ⟨v1, vs1, d1, ds1, p1, q1, rfl, rfl, rfl, h1, r1⟩ := trodAll_cons r0
  obtain ⟨v2, vs2, d2, ds2, p2, q2, rfl, rfl, rfl, h2, r2⟩ := trodAll_cons r1
  obtain ⟨rfl, rfl, rfl⟩ := trodAll_nil r2
  obtain rfl : args = #[v0, v1, v2] := by cases args; simp_all
  obtain ⟨rfl, rfl⟩ := trodVars_none hV
  have R64 : Rb enc Try.prog W 2 (Kd.int .i64) _ := rb_int Try.underlying2 (by kernel_rfl)
  have RS : Rb enc Try.prog W 22 (Kd.slice 2 (Kd.int .i64)) _ := rb_slice Try.underlying22 (by kernel_rfl) R64
  obtain ⟨n0, rfl, rfl, rfl, w0⟩ := open_int Try.underlying2 (hval 0 2 v0 rfl rfl) h0
  obtain ⟨n1, rfl, rfl, rfl, w1⟩ := open_int Try.underlying2 (hval 1 2 v1 rfl rfl) h1
  have lt2 : ∀ x ∈ p2, x.block < W.heap.size := by obtain ⟨m, hm⟩ := h2; exact DataW.trod_lt m _ _ _ hm
  have k2 := h2
  obtain ⟨a2, len2, cp2, rfl⟩ := okWide_slice Try.underlying22 (hval 2 22 v2 rfl rfl)
  obtain ⟨fuel2, hf2⟩ := h2
  obtain ⟨A2, cap2, gs2, he2, hc2, hC2, _⟩ := slice_of RS (c := .slice a2 len2 cp2) hf2
  obtain ⟨rfl, rfl, rfl⟩ : a2 = A2 ∧ len2 = gs2.length ∧ cp2 = cap2 := by simpa using he2
  clear hA0 hval0 hsz0
  refine (SaidCurveTable.exact n0 n1 _ _ gs2 W hC2 hc2).mono fun e W' ⟨he, bel⟩ => ?_
  subst he
  exact ⟨_, rfl, _, _, _, [], _, [], hW', trodAll_mk1 (shut_bool Try.underlying4 _), (trodAll_cons_mk (shut_int Try.underlying2 w0) (trodAll_cons_mk (shut_int Try.underlying2 w1) (trodAll_cons_mk (Below.trod laidOut (by kernel_rfl) (of_decide_eq_true (by kernel_rfl)) k2 bel lt2) trodAll_mk0))), rfl, bel.frame _, fun h => by cases h⟩
theorem a1 : Try.pinned.checked.prog.funcNamed Rows.fnExactCurveTableRow.func = some 10 := by kernel_rfl
theorem and_ {a b : Bool} (h1 : a = true) (h2 : b = true) : (a && b) = true := by rw [h1, h2]; rfl
theorem jA : (Rows.fnExactCurveTableRow.wf (OpenSpec.ofChange Rows.fnExactCurveTableSpec) && laidOutB Try.pinned.checked.prog && mapsRowed Try.pinned.checked.prog && Try.f10.params.all (Try.pinned.checked.prog.readableRec ·) && namedTie Try.pinned.checked.prog Rows.fnExactCurveTableRow.named Rows.fnExactCurveTableSpec.vars && (Rows.fnExactCurveTableRow.stops == []) && (Try.pinned.checked.prog.stops == []) && (Rows.fnExactCurveTableRow.knobs == []) && (Try.pinned.checked.prog.stopKnobs == [])) = true := by kernel_rfl
theorem jinPlace : (Rows.fnExactCurveTableRow.inPlace == Try.pinned.checked.prog.inPlace 10) = true := by kernel_rfl
theorem junfollowed : (Rows.fnExactCurveTableRow.unfollowed == Try.pinned.checked.prog.unfollowed 10) = true := by kernel_rfl
theorem jrecurses : (Rows.fnExactCurveTableRow.recurses == Try.pinned.checked.prog.recurses 10) = true := by kernel_rfl
theorem jnamed : (Rows.fnExactCurveTableRow.named == Try.pinned.checked.prog.varsNamed 10) = true := by kernel_rfl
theorem a2 : joinedFacts Try.pinned.checked.prog 10 Try.f10 Rows.fnExactCurveTableSpec Rows.fnExactCurveTableRow = true := and_ (and_ (and_ (and_ (and_ (and_ (and_ (and_ (and_ (and_ (and_ (and_ (and_ (and_ (and_ (and_ (and_ (and_ (and_ (and_ (and_ (and_ (and_ jA jinPlace) junfollowed) jrecurses) jnamed) (by kernel_rfl)) (by kernel_rfl)) (by kernel_rfl)) (by kernel_rfl)) (by kernel_rfl)) (by kernel_rfl)) (by kernel_rfl)) (by kernel_rfl)) (by kernel_rfl)) (by kernel_rfl)) (by kernel_rfl)) (by kernel_rfl)) (by kernel_rfl)) (by kernel_rfl)) (by kernel_rfl)) (by kernel_rfl)) (by kernel_rfl)) (by kernel_rfl)) (by kernel_rfl)
theorem a3 : Try.f10.isInstance Try.pinned.checked.prog Rows.fnExactCurveTableRow.origin Rows.fnExactCurveTableRow.targs := of_decide_eq_true (by kernel_rfl)
theorem a4 : Try.f10.isWrapper Try.pinned.checked.prog Rows.fnExactCurveTableRow.wrapper Rows.fnExactCurveTableRow.mainSum := by unfold Func.isWrapper; first | (rw [if_pos (by decide +kernel)]; kernel_rfl) | (rw [if_neg (by decide +kernel)]; exact ⟨rfl, rfl⟩)
theorem over : Rows.fnExactCurveTableRow.holds Try.pinned (OpenSpec.ofChange Rows.fnExactCurveTableSpec) :=
  OpenClaim.holds_of_wide 10 Try.f10 rfl rfl rfl rfl rfl rfl rfl ⟨rfl, rfl, rfl, rfl, rfl⟩ rfl rfl rfl rfl rfl a1 Try.func10 a2 a3 a4
    (fun os started H enc _ => lifted os started H enc)
theorem proved : Rows.FnExactCurveTableSaid := over
#print axioms proved
end Go.Proofs.Ytdahdeohmbadhaa.fnExactCurveTable
namespace Go.Proofs.Ytdahdeohmbadhaa
/-- The row, under a short name, for the claim. -/
theorem fnExactCurveTable_holds : Rows.FnExactCurveTableSaid := fnExactCurveTable.proved
end Go.Proofs.Ytdahdeohmbadhaa
