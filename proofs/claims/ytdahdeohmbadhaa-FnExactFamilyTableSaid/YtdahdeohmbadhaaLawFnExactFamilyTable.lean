/- FnExactFamilyTable, for every input, returns true: the program's FamilyTable returns what the reference's returns. No condition beyond the row's own. -/
import Derived.Test.YtdahdeohmbadhaaRows
import Derived.Test.YtdahdeohmbadhaaTFamE
import Derived.Test.YtdahdeohmbadhaaReadT
import Derived.WalkKit
import Derived.ProofKit
import Derived.OpenShut
import Derived.ShutString
import Derived.ChangeOld
import Derived.Below
import Derived.SizedLaws
import Derived.Lib.SmallJoins
import Derived.Carry
namespace Go.Proofs.Ytdahdeohmbadhaa.fnExactFamilyTable
open Go.ChangeShapes Go.WideShapes Go.ChangeAt Go.RowKit Go.Joins
open Go.Proofs.YtdahdeohmbadhaaW.PrintWords Go.Proofs.Ytdahdeohmbadhaa.Read
set_option linter.unusedVariables false
theorem own : ownKnob Try.prog.godebug = none := by kernel_rfl
theorem laidOut : laidOutB Try.prog = true := by kernel_rfl
theorem cells_f : Try.prog.cellsOf 55 = 2 := by kernel_rfl
set_option maxRecDepth 100000 in
theorem lifted (os : Os) (started : os.Started) (H : Type) (enc : TypeId × Value → H) :
  ReturnsInHanded {} Try.checked os 11 .any (Rows.fnExactFamilyTableSpec.pre6 enc Try.prog Try.f11 Rows.fnExactFamilyTableRow.domain false) (Rows.fnExactFamilyTableSpec.post enc Try.prog Try.f11 false true false false) := by
 refine returnsInHanded_of_change_sized (C := Try.checked) own started (by kernel_rfl) Try.func11
  (ChangeSpec.witness6 (enc := enc) (C := Try.checked) false ⟨#[], #[.agg #[.int .i64 0, .slice none 0 0], .int .i64 0], []⟩ 8 (by kernel_rfl) (by kernel_rfl) (by kernel_rfl) (by kernel_rfl)) ?_
 intro W base args ds gs before hval0 hW hcnd hsz0 _
 have hval : ∀ (j : Nat) t v, Try.f11.params[j]? = some t → args[j]? = some v → Value.okWide Try.prog W .any base t v := hval0
 have hW' := hW
 obtain ⟨p, q, hA0, hV, rfl, hfz, hnd⟩ := hW
 have hA : DataW.TrodAll enc Try.prog W 0 (fun _ => true) true Try.f11.params.toList args.toList ds p := hA0
 rw [Try.params11] at hA hval
 obtain ⟨v0, vs0, d0, ds0, p0, q0, hargs, rfl, rfl, h0, r0⟩ := trodAll_cons hA
 obtain ⟨v1, vs1, d1, ds1, p1, q1, rfl, rfl, rfl, h1, r1⟩ := trodAll_cons r0
 obtain ⟨rfl, rfl, rfl⟩ := trodAll_nil r1
 obtain rfl : args = #[v0, v1] := by cases args; simp_all
 obtain ⟨rfl, rfl⟩ := trodVars_none hV
 have R64 : Rb enc Try.prog W 2 (Kd.int .i64) _ := rb_int Try.underlying2 (by kernel_rfl)
 have RS : Rb enc Try.prog W 22 (Kd.slice 2 (Kd.int .i64)) _ := rb_slice Try.underlying22 (by kernel_rfl) R64
 have RSF : Rb enc Try.prog W 53 (Kd.slice 22 (Kd.slice 2 (Kd.int .i64))) _ := rb_slice Try.underlying53 (by kernel_rfl) RS
 have lt0 : ∀ x ∈ p0, x.block < W.heap.size := by obtain ⟨m, hm⟩ := h0; exact DataW.trod_lt m _ _ _ hm
 have k0 := h0
 obtain ⟨c00, c01, y00, y01, m0, rfl, rfl, rfl, hy00, hy01⟩ := open_agg2 Try.underlying55 (by kernel_rfl) cells_f (hval 0 55 v0 rfl rfl) h0
 obtain ⟨n0, rfl, _⟩ := int_of R64 hy00
 obtain ⟨A0, cap0, gs0, rfl, hc0, hC0, _⟩ := slice_of RSF hy01
 obtain ⟨n1, rfl, rfl, rfl, w1⟩ := open_int Try.underlying2 (hval 1 2 v1 rfl rfl) h1
 clear hA0 hval0 hsz0
 refine (SaidFamilyTable.exact n0 A0 cap0 gs0 n1 W hC0 hc0).mono fun e W' ⟨he, bel⟩ => ?_
 subst he
 exact ⟨_, rfl, _, _, _, [], _, [], hW', trodAll_mk1 (shut_bool Try.underlying4 _), (trodAll_cons_mk (Below.trod laidOut (by kernel_rfl) (of_decide_eq_true (by kernel_rfl)) k0 bel lt0) (trodAll_cons_mk (shut_int Try.underlying2 w1) trodAll_mk0)), rfl, bel.frame _, fun h => by cases h⟩
theorem a1 : Try.pinned.checked.prog.funcNamed Rows.fnExactFamilyTableRow.func = some 11 := by kernel_rfl
theorem and_ {a b : Bool} (h1 : a = true) (h2 : b = true) : (a && b) = true := by rw [h1, h2]; rfl
theorem jA : (Rows.fnExactFamilyTableRow.wf (OpenSpec.ofChange Rows.fnExactFamilyTableSpec) && laidOutB Try.pinned.checked.prog && mapsRowed Try.pinned.checked.prog && Try.f11.params.all (Try.pinned.checked.prog.readableRec ·) && namedTie Try.pinned.checked.prog Rows.fnExactFamilyTableRow.named Rows.fnExactFamilyTableSpec.vars && (Rows.fnExactFamilyTableRow.stops == []) && (Try.pinned.checked.prog.stops == []) && (Rows.fnExactFamilyTableRow.knobs == []) && (Try.pinned.checked.prog.stopKnobs == [])) = true := by kernel_rfl
theorem jinPlace : (Rows.fnExactFamilyTableRow.inPlace == Try.pinned.checked.prog.inPlace 11) = true := by kernel_rfl
theorem junfollowed : (Rows.fnExactFamilyTableRow.unfollowed == Try.pinned.checked.prog.unfollowed 11) = true := by kernel_rfl
theorem jrecurses : (Rows.fnExactFamilyTableRow.recurses == Try.pinned.checked.prog.recurses 11) = true := by kernel_rfl
theorem jnamed : (Rows.fnExactFamilyTableRow.named == Try.pinned.checked.prog.varsNamed 11) = true := by kernel_rfl
theorem a2 : joinedFacts Try.pinned.checked.prog 11 Try.f11 Rows.fnExactFamilyTableSpec Rows.fnExactFamilyTableRow = true := and_ (and_ (and_ (and_ (and_ (and_ (and_ (and_ (and_ (and_ (and_ (and_ (and_ (and_ (and_ (and_ (and_ (and_ (and_ (and_ (and_ (and_ (and_ jA jinPlace) junfollowed) jrecurses) jnamed) (by kernel_rfl)) (by kernel_rfl)) (by kernel_rfl)) (by kernel_rfl)) (by kernel_rfl)) (by kernel_rfl)) (by kernel_rfl)) (by kernel_rfl)) (by kernel_rfl)) (by kernel_rfl)) (by kernel_rfl)) (by kernel_rfl)) (by kernel_rfl)) (by kernel_rfl)) (by kernel_rfl)) (by kernel_rfl)) (by kernel_rfl)) (by kernel_rfl)) (by kernel_rfl)
theorem a3 : Try.f11.isInstance Try.pinned.checked.prog Rows.fnExactFamilyTableRow.origin Rows.fnExactFamilyTableRow.targs := of_decide_eq_true (by kernel_rfl)
theorem a4 : Try.f11.isWrapper Try.pinned.checked.prog Rows.fnExactFamilyTableRow.wrapper Rows.fnExactFamilyTableRow.mainSum := by unfold Func.isWrapper; first | (rw [if_pos (by decide +kernel)]; kernel_rfl) | (rw [if_neg (by decide +kernel)]; exact ⟨rfl, rfl⟩)
theorem over : Rows.fnExactFamilyTableRow.holds Try.pinned (OpenSpec.ofChange Rows.fnExactFamilyTableSpec) :=
 OpenClaim.holds_of_wide 11 Try.f11 rfl rfl rfl rfl rfl rfl rfl ⟨rfl, rfl, rfl, rfl, rfl⟩ rfl rfl rfl rfl rfl a1 Try.func11 a2 a3 a4
  (fun os started H enc _ => lifted os started H enc)
theorem proved : Rows.FnExactFamilyTableSaid := over
#print axioms proved
end Go.Proofs.Ytdahdeohmbadhaa.fnExactFamilyTable
namespace Go.Proofs.Ytdahdeohmbadhaa
/-- The row, under a short name, for the claim. -/
theorem fnExactFamilyTable_holds : Rows.FnExactFamilyTableSaid := fnExactFamilyTable.proved
end Go.Proofs.Ytdahdeohmbadhaa
