/- FnExactFamilyOf, for every input, returns true: the program's FamilyOf returns what the reference's returns. No condition beyond the row's own. -/
import Derived.Test.YtmeaffkgnmgmeaaRows
import Derived.Test.YtmeaffkgnmgmeaaSaidFamilyOf
import Derived.Test.YtmeaffkgnmgmeaaRead
import Derived.WalkKit
import Derived.ProofKit
import Derived.OpenShut
import Derived.ShutString
import Derived.ChangeOld
import Derived.Below
import Derived.SizedLaws
import Derived.Lib.SmallJoins
import Derived.Carry
namespace Go.Proofs.Ytmeaffkgnmgmeaa.fnExactFamilyOf
open Go.ChangeShapes Go.WideShapes Go.ChangeAt Go.RowKit Go.Joins
open Go.Proofs.YtmeaffkgnmgmeaaW.PrintWords Go.Proofs.Ytmeaffkgnmgmeaa.Read
set_option linter.unusedVariables false
theorem own : ownKnob Try.prog.godebug = none := by kernel_rfl
theorem laidOut : laidOutB Try.prog = true := by kernel_rfl
set_option maxRecDepth 100000 in
theorem lifted (os : Os) (started : os.Started) (H : Type) (enc : TypeId × Value → H) :
    ReturnsInHanded {} Try.checked os 5 .any (Rows.fnExactFamilyOfSpec.pre6 enc Try.prog Try.f5 Rows.fnExactFamilyOfRow.domain false) (Rows.fnExactFamilyOfSpec.post enc Try.prog Try.f5 false true false false) := by
  refine returnsInHanded_of_change_sized (C := Try.checked) own started (by kernel_rfl) Try.func5
    (ChangeSpec.witness6 (enc := enc) (C := Try.checked) false ⟨#[], #[.int .i64 0, .slice none 0 0], []⟩ 8 (by kernel_rfl) (by kernel_rfl) (by kernel_rfl) (by kernel_rfl)) ?_
  intro W base args ds gs before hval0 hW hcnd hsz0 _
  have hval : ∀ (j : Nat) t v, Try.f5.params[j]? = some t → args[j]? = some v → Value.okWide Try.prog W .any base t v := hval0
  have hW' := hW
  obtain ⟨p, q, hA0, hV, rfl, hfz, hnd⟩ := hW
  have hA : DataW.TrodAll enc Try.prog W 0 (fun _ => true) true Try.f5.params.toList args.toList ds p := hA0
  rw [Try.params5] at hA hval
  obtain ⟨v0, vs0, d0, ds0, p0, q0, hargs, rfl, rfl, h0, r0⟩ := trodAll_cons hA
  obtain ⟨v1, vs1, d1, ds1, p1, q1, rfl, rfl, rfl, h1, r1⟩ := trodAll_cons r0
  obtain ⟨rfl, rfl, rfl⟩ := trodAll_nil r1
  obtain rfl : args = #[v0, v1] := by cases args; simp_all
  obtain ⟨rfl, rfl⟩ := trodVars_none hV
  have R64 : Rb enc Try.prog W 2 (Kd.int .i64) _ := rb_int Try.underlying2 (by kernel_rfl)
  have RS : Rb enc Try.prog W 30 (Kd.slice 2 (Kd.int .i64)) _ := rb_slice Try.underlying30 (by kernel_rfl) R64
  have RSS : Rb enc Try.prog W 25 (Kd.slice 30 (Kd.slice 2 (Kd.int .i64))) _ := rb_slice Try.underlying25 (by kernel_rfl) RS
  obtain ⟨n0, rfl, rfl, rfl, w0⟩ := open_int Try.underlying2 (hval 0 2 v0 rfl rfl) h0
  have lt1 : ∀ x ∈ p1, x.block < W.heap.size := by obtain ⟨m, hm⟩ := h1; exact DataW.trod_lt m _ _ _ hm
  have k1 := h1
  obtain ⟨a1, len1, cp1, rfl⟩ := okWide_slice Try.underlying25 (hval 1 25 v1 rfl rfl)
  obtain ⟨fuel1, hf1⟩ := h1
  obtain ⟨A1, cap1, gs1, he1, hc1, hC1, _⟩ := slice_of RSS (c := .slice a1 len1 cp1) hf1
  obtain ⟨rfl, rfl, rfl⟩ : a1 = A1 ∧ len1 = gs1.length ∧ cp1 = cap1 := by simpa using he1
  clear hA0 hval0 hsz0
  refine (SaidFamilyOf.exact n0 _ _ gs1 W hC1 hc1).mono fun e W' ⟨he, bel⟩ => ?_
  subst he
  exact ⟨_, rfl, _, _, _, [], _, [], hW', trodAll_mk1 (shut_bool Try.underlying4 _), (trodAll_cons_mk (shut_int Try.underlying2 w0) (trodAll_cons_mk (Below.trod laidOut (by kernel_rfl) (of_decide_eq_true (by kernel_rfl)) k1 bel lt1) trodAll_mk0)), rfl, bel.frame _, fun h => by cases h⟩
theorem over : Rows.fnExactFamilyOfRow.holds Try.pinned (OpenSpec.ofChange Rows.fnExactFamilyOfSpec) :=
  OpenClaim.holds_of_wide 5 Try.f5 rfl rfl rfl rfl rfl rfl rfl ⟨rfl, rfl, rfl, rfl, rfl⟩ rfl rfl rfl rfl rfl (by kernel_rfl) Try.func5 (by kernel_rfl)
    (of_decide_eq_true (by kernel_rfl)) (by unfold Func.isWrapper; first | (rw [if_pos (by decide +kernel)]; kernel_rfl) | (rw [if_neg (by decide +kernel)]; exact ⟨rfl, rfl⟩))
    (fun os started H enc _ => lifted os started H enc)
theorem proved : Rows.FnExactFamilyOfSaid := over
#print axioms proved
end Go.Proofs.Ytmeaffkgnmgmeaa.fnExactFamilyOf
namespace Go.Proofs.Ytmeaffkgnmgmeaa
/-- The row, under a short name, for the claim. -/
theorem fnExactFamilyOf_holds : Rows.FnExactFamilyOfSaid := fnExactFamilyOf.proved
end Go.Proofs.Ytmeaffkgnmgmeaa
