/- FnExactPutFamily, for every input, returns true: the program's PutFamily returns what the reference's returns. No condition beyond the row's own. -/
import Derived.Test.YtcgbogdkmliohaaRows
import Derived.Test.YtcgbogdkmliohaaSaidPutFamily
import Derived.Test.YtcgbogdkmliohaaRead
import Derived.WalkKit
import Derived.ProofKit
import Derived.OpenShut
import Derived.ShutString
import Derived.ChangeOld
import Derived.Below
import Derived.SizedLaws
import Derived.Lib.SmallJoins
import Derived.Carry
namespace Go.Proofs.Ytcgbogdkmliohaa.fnExactPutFamily
open Go.ChangeShapes Go.WideShapes Go.ChangeAt Go.RowKit Go.Joins
open Go.Proofs.YtcgbogdkmliohaaW.PrintWords Go.Proofs.Ytcgbogdkmliohaa.Read
set_option linter.unusedVariables false
theorem own : ownKnob Try.prog.godebug = none := by kernel_rfl
theorem laidOut : laidOutB Try.prog = true := by kernel_rfl
theorem cells_st : Try.prog.cellsOf 24 = 2 := by kernel_rfl
set_option maxRecDepth 100000 in
theorem lifted (os : Os) (started : os.Started) (H : Type) (enc : TypeId × Value → H) :
    ReturnsInHanded {} Try.checked os 5 .any (Rows.fnExactPutFamilySpec.pre6 enc Try.prog Try.f5 Rows.fnExactPutFamilyRow.domain false) (Rows.fnExactPutFamilySpec.post enc Try.prog Try.f5 false true false false) := by
  refine returnsInHanded_of_change_sized (C := Try.checked) own started (by kernel_rfl) Try.func5
    (ChangeSpec.witness6 (enc := enc) (C := Try.checked) false ⟨#[], #[.agg #[.int .i64 0, .slice none 0 0], .int .i64 0, .agg #[.int .i64 0, .slice none 0 0]], []⟩ 8 (by kernel_rfl) (by kernel_rfl) (by kernel_rfl) (by kernel_rfl)) ?_
  intro W base args ds gs before hval0 hW hcnd hsz0 _
  have hval : ∀ (j : Nat) t v, Try.f5.params[j]? = some t → args[j]? = some v → Value.okWide Try.prog W .any base t v := hval0
  have hW' := hW
  obtain ⟨p, q, hA0, hV, rfl, hfz, hnd⟩ := hW
  have hA : DataW.TrodAll enc Try.prog W 0 (fun _ => true) true Try.f5.params.toList args.toList ds p := hA0
  rw [Try.params5] at hA hval
  obtain ⟨v0, vs0, d0, ds0, p0, q0, hargs, rfl, rfl, h0, r0⟩ := trodAll_cons hA
  obtain ⟨v1, vs1, d1, ds1, p1, q1, rfl, rfl, rfl, h1, r1⟩ := trodAll_cons r0
  obtain ⟨v2, vs2, d2, ds2, p2, q2, rfl, rfl, rfl, h2, r2⟩ := trodAll_cons r1
  obtain ⟨rfl, rfl, rfl⟩ := trodAll_nil r2
  obtain rfl : args = #[v0, v1, v2] := by cases args; simp_all
  obtain ⟨rfl, rfl⟩ := trodVars_none hV
  have R64 : Rb enc Try.prog W 2 (Kd.int .i64) _ := rb_int Try.underlying2 (by kernel_rfl)
  have RS : Rb enc Try.prog W 38 (Kd.slice 2 (Kd.int .i64)) _ := rb_slice Try.underlying38 (by kernel_rfl) R64
  have RSS : Rb enc Try.prog W 22 (Kd.slice 38 (Kd.slice 2 (Kd.int .i64))) _ := rb_slice Try.underlying22 (by kernel_rfl) RS
  have lt0 : ∀ x ∈ p0, x.block < W.heap.size := by obtain ⟨m, hm⟩ := h0; exact DataW.trod_lt m _ _ _ hm
  have k0 := h0
  obtain ⟨c00, c01, y00, y01, m0, rfl, rfl, rfl, hy00, hy01⟩ := open_agg2 Try.underlying24 (by kernel_rfl) cells_st (hval 0 24 v0 rfl rfl) h0
  obtain ⟨n0, rfl, _⟩ := int_of R64 hy00
  obtain ⟨A0, cap0, gs0, rfl, hc0, hC0, _⟩ := slice_of RSS hy01
  obtain ⟨n1, rfl, rfl, rfl, w1⟩ := open_int Try.underlying2 (hval 1 2 v1 rfl rfl) h1
  have lt2 : ∀ x ∈ p2, x.block < W.heap.size := by obtain ⟨m, hm⟩ := h2; exact DataW.trod_lt m _ _ _ hm
  have k2 := h2
  obtain ⟨c20, c21, y20, y21, m2, rfl, rfl, rfl, hy20, hy21⟩ := open_agg2 Try.underlying24 (by kernel_rfl) cells_st (hval 2 24 v2 rfl rfl) h2
  obtain ⟨n2, rfl, _⟩ := int_of R64 hy20
  obtain ⟨A2, cap2, gs2, rfl, hc2, hC2, _⟩ := slice_of RSS hy21
  clear hA0 hval0 hsz0
  refine (SaidPutFamily.exact n0 A0 cap0 gs0 n1 n2 A2 cap2 gs2 W hC0 hc0 hC2 hc2).mono fun e W' ⟨he, bel⟩ => ?_
  subst he
  exact ⟨_, rfl, _, _, _, [], _, [], hW', trodAll_mk1 (shut_bool Try.underlying4 _), (trodAll_cons_mk (Below.trod laidOut (by kernel_rfl) (of_decide_eq_true (by kernel_rfl)) k0 bel lt0) (trodAll_cons_mk (shut_int Try.underlying2 w1) (trodAll_cons_mk (Below.trod laidOut (by kernel_rfl) (of_decide_eq_true (by kernel_rfl)) k2 bel lt2) trodAll_mk0))), rfl, bel.frame _, fun h => by cases h⟩
theorem over : Rows.fnExactPutFamilyRow.holds Try.pinned (OpenSpec.ofChange Rows.fnExactPutFamilySpec) :=
  OpenClaim.holds_of_wide 5 Try.f5 rfl rfl rfl rfl rfl rfl rfl ⟨rfl, rfl, rfl, rfl, rfl⟩ rfl rfl rfl rfl rfl (by kernel_rfl) Try.func5 (by kernel_rfl)
    (of_decide_eq_true (by kernel_rfl)) (by unfold Func.isWrapper; first | (rw [if_pos (by decide +kernel)]; kernel_rfl) | (rw [if_neg (by decide +kernel)]; exact ⟨rfl, rfl⟩))
    (fun os started H enc _ => lifted os started H enc)
theorem proved : Rows.FnExactPutFamilySaid := over
#print axioms proved
end Go.Proofs.Ytcgbogdkmliohaa.fnExactPutFamily
namespace Go.Proofs.Ytcgbogdkmliohaa
/-- The row, under a short name, for the claim. -/
theorem fnExactPutFamily_holds : Rows.FnExactPutFamilySaid := fnExactPutFamily.proved
end Go.Proofs.Ytcgbogdkmliohaa
