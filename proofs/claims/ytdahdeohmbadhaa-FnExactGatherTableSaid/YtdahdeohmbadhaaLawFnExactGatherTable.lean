/- FnExactGatherTable, for every input, returns true: the program's GatherTable returns what the reference's returns. No condition beyond the row's own. -/
import Derived.Test.YtdahdeohmbadhaaRows
import Derived.Test.YtdahdeohmbadhaaSaidGatherTable
import Derived.Test.YtdahdeohmbadhaaReadT
import Derived.WalkKit
import Derived.ProofKit
import Derived.OpenShut
import Derived.ShutString
import Derived.ChangeOld
import Derived.Below
import Derived.SizedLaws
import Derived.Lib.SmallJoins
import Derived.Carry
namespace Go.Proofs.Ytdahdeohmbadhaa.fnExactGatherTable
open Go.ChangeShapes Go.WideShapes Go.ChangeAt Go.RowKit Go.Joins
open Go.Proofs.YtdahdeohmbadhaaW.PrintWords Go.Proofs.Ytdahdeohmbadhaa.Read Go.Proofs.Ytdahdeohmbadhaa.ReadT
set_option linter.unusedVariables false
theorem own : ownKnob Try.prog.godebug = none := by kernel_rfl
theorem laidOut : laidOutB Try.prog = true := by kernel_rfl
set_option maxRecDepth 100000 in
theorem lifted (os : Os) (started : os.Started) (H : Type) (enc : TypeId × Value → H) :
    ReturnsInHanded {} Try.checked os 3 .any (Rows.fnExactGatherTableSpec.pre6 enc Try.prog Try.f3 Rows.fnExactGatherTableRow.domain false) (Rows.fnExactGatherTableSpec.post enc Try.prog Try.f3 false true false false) := by
  refine returnsInHanded_of_change_sized (C := Try.checked) own started (by kernel_rfl) Try.func3
    (ChangeSpec.witness6 (enc := enc) (C := Try.checked) false ⟨#[], #[.int .i64 0, .slice none 0 0, .slice none 0 0], []⟩ 8 (by kernel_rfl) (by kernel_rfl) (by kernel_rfl) (by kernel_rfl)) ?_
  intro W base args ds gs before hval0 hW hcnd hsz0 _
  have hval : ∀ (j : Nat) t v, Try.f3.params[j]? = some t → args[j]? = some v → Value.okWide Try.prog W .any base t v := hval0
  have hW' := hW
  obtain ⟨p, q, hA0, hV, rfl, hfz, hnd⟩ := hW
  have hA : DataW.TrodAll enc Try.prog W 0 (fun _ => true) true Try.f3.params.toList args.toList ds p := hA0
  rw [Try.params3] at hA hval
  obtain ⟨v0, vs0, d0, ds0, p0, q0, hargs, rfl, rfl, h0, r0⟩ := trodAll_cons hA
  obtain ⟨v1, vs1, d1, ds1, p1, q1, rfl, rfl, rfl, h1, r1⟩ := trodAll_cons r0
  obtain ⟨v2, vs2, d2, ds2, p2, q2, rfl, rfl, rfl, h2, r2⟩ := trodAll_cons r1
  obtain ⟨rfl, rfl, rfl⟩ := trodAll_nil r2
  obtain rfl : args = #[v0, v1, v2] := by cases args; simp_all
  obtain ⟨rfl, rfl⟩ := trodVars_none hV
  have R64 : Rb enc Try.prog W 2 (Kd.int .i64) _ := rb_int Try.underlying2 (by kernel_rfl)
  have RS : Rb enc Try.prog W 22 (Kd.slice 2 (Kd.int .i64)) _ := rb_slice Try.underlying22 (by kernel_rfl) R64
  have RSS : Rb enc Try.prog W 23 (Kd.slice 83 Go.Proofs.Ytdahdeohmbadhaa.ExT.lW) _ := rb_slice Try.underlying23 (by kernel_rfl) (rb_row R64 RS)
  obtain ⟨n0, rfl, rfl, rfl, w0⟩ := open_int Try.underlying2 (hval 0 2 v0 rfl rfl) h0
  have lt1 : ∀ x ∈ p1, x.block < W.heap.size := by obtain ⟨m, hm⟩ := h1; exact DataW.trod_lt m _ _ _ hm
  have k1 := h1
  obtain ⟨a1, len1, cp1, rfl⟩ := okWide_slice Try.underlying22 (hval 1 22 v1 rfl rfl)
  obtain ⟨fuel1, hf1⟩ := h1
  obtain ⟨A1, cap1, gs1, he1, hc1, hC1, _⟩ := slice_of RS (c := .slice a1 len1 cp1) hf1
  obtain ⟨rfl, rfl, rfl⟩ : a1 = A1 ∧ len1 = gs1.length ∧ cp1 = cap1 := by simpa using he1
  have lt2 : ∀ x ∈ p2, x.block < W.heap.size := by obtain ⟨m, hm⟩ := h2; exact DataW.trod_lt m _ _ _ hm
  have k2 := h2
  obtain ⟨a2, len2, cp2, rfl⟩ := okWide_slice Try.underlying23 (hval 2 23 v2 rfl rfl)
  obtain ⟨fuel2, hf2⟩ := h2
  obtain ⟨A2, cap2, gs2, he2, hc2, hC2, _⟩ := slice_of RSS (c := .slice a2 len2 cp2) hf2
  obtain ⟨rfl, rfl, rfl⟩ : a2 = A2 ∧ len2 = gs2.length ∧ cp2 = cap2 := by simpa using he2
  clear hA0 hval0 hsz0
  refine (SaidGatherTable.exact n0 _ _ gs1 _ _ gs2 W hC1 hc1 hC2 hc2).mono fun e W' ⟨he, bel⟩ => ?_
  subst he
  exact ⟨_, rfl, _, _, _, [], _, [], hW', trodAll_mk1 (shut_bool Try.underlying4 _), (trodAll_cons_mk (shut_int Try.underlying2 w0) (trodAll_cons_mk (Below.trod laidOut (by kernel_rfl) (of_decide_eq_true (by kernel_rfl)) k1 bel lt1) (trodAll_cons_mk (Below.trod laidOut (by kernel_rfl) (of_decide_eq_true (by kernel_rfl)) k2 bel lt2) trodAll_mk0))), rfl, bel.frame _, fun h => by cases h⟩
theorem a1 : Try.pinned.checked.prog.funcNamed Rows.fnExactGatherTableRow.func = some 3 := by kernel_rfl
theorem a2 : joinedFacts Try.pinned.checked.prog 3 Try.f3 Rows.fnExactGatherTableSpec Rows.fnExactGatherTableRow = true := by kernel_rfl
theorem a3 : Try.f3.isInstance Try.pinned.checked.prog Rows.fnExactGatherTableRow.origin Rows.fnExactGatherTableRow.targs := of_decide_eq_true (by kernel_rfl)
theorem a4 : Try.f3.isWrapper Try.pinned.checked.prog Rows.fnExactGatherTableRow.wrapper Rows.fnExactGatherTableRow.mainSum := by unfold Func.isWrapper; first | (rw [if_pos (by decide +kernel)]; kernel_rfl) | (rw [if_neg (by decide +kernel)]; exact ⟨rfl, rfl⟩)
theorem over : Rows.fnExactGatherTableRow.holds Try.pinned (OpenSpec.ofChange Rows.fnExactGatherTableSpec) :=
  OpenClaim.holds_of_wide 3 Try.f3 rfl rfl rfl rfl rfl rfl rfl ⟨rfl, rfl, rfl, rfl, rfl⟩ rfl rfl rfl rfl rfl a1 Try.func3 a2 a3 a4
    (fun os started H enc _ => lifted os started H enc)
theorem proved : Rows.FnExactGatherTableSaid := over
#print axioms proved
end Go.Proofs.Ytdahdeohmbadhaa.fnExactGatherTable
namespace Go.Proofs.Ytdahdeohmbadhaa
/-- The row, under a short name, for the claim. -/
theorem fnExactGatherTable_holds : Rows.FnExactGatherTableSaid := fnExactGatherTable.proved
end Go.Proofs.Ytdahdeohmbadhaa
