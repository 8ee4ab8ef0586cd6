/- FnExactRenameHolders, for every input, returns true: the program's RenameHolders returns what the reference's returns. No condition beyond the row's own. -/
import Derived.Test.YtmanloolbpmgiaaRows
import Derived.Test.YtmanloolbpmgiaaSaidRenameHolders
import Derived.Test.YtmanloolbpmgiaaRead
import Derived.WalkKit
import Derived.ProofKit
import Derived.OpenShut
import Derived.ShutString
import Derived.ChangeOld
import Derived.Below
import Derived.SizedLaws
import Derived.Lib.SmallJoins
import Derived.Carry
namespace Go.Proofs.Ytmanloolbpmgiaa.fnExactRenameHolders
open Go.ChangeShapes Go.WideShapes Go.ChangeAt Go.RowKit Go.Joins
open Go.Proofs.YtmanloolbpmgiaaW.PrintWords Go.Proofs.Ytmanloolbpmgiaa.Read
set_option linter.unusedVariables false
theorem own : ownKnob Try.prog.godebug = none := by kernel_rfl
theorem laidOut : laidOutB Try.prog = true := by kernel_rfl
theorem cells_st : Try.prog.cellsOf 45 = 2 := by kernel_rfl
set_option maxRecDepth 100000 in
theorem lifted (os : Os) (started : os.Started) (H : Type) (enc : TypeId × Value → H) :
    ReturnsInHanded {} Try.checked os 6 .any (Rows.fnExactRenameHoldersSpec.pre6 enc Try.prog Try.f6 Rows.fnExactRenameHoldersRow.domain false) (Rows.fnExactRenameHoldersSpec.post enc Try.prog Try.f6 false true false false) := by
  refine returnsInHanded_of_change_sized (C := Try.checked) own started (by kernel_rfl) Try.func6
    (ChangeSpec.witness6 (enc := enc) (C := Try.checked) false ⟨#[], #[.agg #[.int .i64 0, .slice none 0 0], .slice none 0 0], []⟩ 8 (by kernel_rfl) (by kernel_rfl) (by kernel_rfl) (by kernel_rfl)) ?_
  intro W base args ds gs before hval0 hW hcnd hsz0 _
  have hval : ∀ (j : Nat) t v, Try.f6.params[j]? = some t → args[j]? = some v → Value.okWide Try.prog W .any base t v := hval0
  have hW' := hW
  obtain ⟨p, q, hA0, hV, rfl, hfz, hnd⟩ := hW
  have hA : DataW.TrodAll enc Try.prog W 0 (fun _ => true) true Try.f6.params.toList args.toList ds p := hA0
  rw [Try.params6] at hA hval
  obtain ⟨v0, vs0, d0, ds0, p0, q0, hargs, rfl, rfl, h0, r0⟩ := trodAll_cons hA
  obtain ⟨v1, vs1, d1, ds1, p1, q1, rfl, rfl, rfl, h1, r1⟩ := trodAll_cons r0
  obtain ⟨rfl, rfl, rfl⟩ := trodAll_nil r1
  obtain rfl : args = #[v0, v1] := by cases args; simp_all
  obtain ⟨rfl, rfl⟩ := trodVars_none hV
  have R64 : Rb enc Try.prog W 2 (Kd.int .i64) _ := rb_int Try.underlying2 (by kernel_rfl)
  have RS : Rb enc Try.prog W 28 (Kd.slice 2 (Kd.int .i64)) _ := rb_slice Try.underlying28 (by kernel_rfl) R64
  have RSS : Rb enc Try.prog W 24 (Kd.slice 28 (Kd.slice 2 (Kd.int .i64))) _ := rb_slice Try.underlying24 (by kernel_rfl) RS
  have lt0 : ∀ x ∈ p0, x.block < W.heap.size := by obtain ⟨m, hm⟩ := h0; exact DataW.trod_lt m _ _ _ hm
  have k0 := h0
  obtain ⟨c00, c01, y00, y01, m0, rfl, rfl, rfl, hy00, hy01⟩ := open_agg2 Try.underlying45 (by kernel_rfl) cells_st (hval 0 45 v0 rfl rfl) h0
  obtain ⟨n0, rfl, _⟩ := int_of R64 hy00
  obtain ⟨A0, cap0, gs0, rfl, hc0, hC0, _⟩ := slice_of RSS hy01
  have lt1 : ∀ x ∈ p1, x.block < W.heap.size := by obtain ⟨m, hm⟩ := h1; exact DataW.trod_lt m _ _ _ hm
  have k1 := h1
  obtain ⟨a1, len1, cp1, rfl⟩ := okWide_slice Try.underlying28 (hval 1 28 v1 rfl rfl)
  obtain ⟨fuel1, hf1⟩ := h1
  obtain ⟨A1, cap1, gs1, he1, hc1, hC1, _⟩ := slice_of RS (c := .slice a1 len1 cp1) hf1
  obtain ⟨rfl, rfl, rfl⟩ : a1 = A1 ∧ len1 = gs1.length ∧ cp1 = cap1 := by simpa using he1
  clear hA0 hval0 hsz0
  refine (SaidRenameHolders.exact n0 A0 cap0 gs0 _ _ gs1 W hC0 hc0 hC1 hc1).mono fun e W' ⟨he, bel⟩ => ?_
  subst he
  exact ⟨_, rfl, _, _, _, [], _, [], hW', trodAll_mk1 (shut_bool Try.underlying4 _), (trodAll_cons_mk (Below.trod laidOut (by kernel_rfl) (of_decide_eq_true (by kernel_rfl)) k0 bel lt0) (trodAll_cons_mk (Below.trod laidOut (by kernel_rfl) (of_decide_eq_true (by kernel_rfl)) k1 bel lt1) trodAll_mk0)), rfl, bel.frame _, fun h => by cases h⟩
theorem over : Rows.fnExactRenameHoldersRow.holds Try.pinned (OpenSpec.ofChange Rows.fnExactRenameHoldersSpec) :=
  OpenClaim.holds_of_wide 6 Try.f6 rfl rfl rfl rfl rfl rfl rfl ⟨rfl, rfl, rfl, rfl, rfl⟩ rfl rfl rfl rfl rfl (by kernel_rfl) Try.func6 (by kernel_rfl)
    (of_decide_eq_true (by kernel_rfl)) (by unfold Func.isWrapper; first | (rw [if_pos (by decide +kernel)]; kernel_rfl) | (rw [if_neg (by decide +kernel)]; exact ⟨rfl, rfl⟩))
    (fun os started H enc _ => lifted os started H enc)
theorem proved : Rows.FnExactRenameHoldersSaid := over
#print axioms proved
end Go.Proofs.Ytmanloolbpmgiaa.fnExactRenameHolders
namespace Go.Proofs.Ytmanloolbpmgiaa
/-- The row, under a short name, for the claim. -/
theorem fnExactRenameHolders_holds : Rows.FnExactRenameHoldersSaid := fnExactRenameHolders.proved
end Go.Proofs.Ytmanloolbpmgiaa
