/- FnExactSameRanks, for every input, returns true: the program's SameRanks returns what the reference's returns. No condition beyond the row's own. -/
import Derived.Test.YtmngmjadjncdhaaRows
import Derived.Test.YtmngmjadjncdhaaPureSameRanks
import Derived.Test.YtmngmjadjncdhaaRead
import Derived.WalkKit
import Derived.ProofKit
import Derived.OpenShut
import Derived.ShutString
import Derived.ChangeOld
import Derived.Below
import Derived.SizedLaws
import Derived.Lib.SmallJoins
import Derived.Carry
namespace Go.Proofs.Ytmngmjadjncdhaa.fnExactSameRanks
open Go.ChangeShapes Go.WideShapes Go.ChangeAt Go.RowKit Go.Joins
open Go.Proofs.YtmngmjadjncdhaaW.PrintWords Go.Proofs.Ytmngmjadjncdhaa.Read
set_option linter.unusedVariables false
theorem own : ownKnob Try.prog.godebug = none := by kernel_rfl
theorem laidOut : laidOutB Try.prog = true := by kernel_rfl
theorem cells_st : Try.prog.cellsOf 24 = 3 := by kernel_rfl
set_option maxRecDepth 100000 in
theorem lifted (os : Os) (started : os.Started) (H : Type) (enc : TypeId × Value → H) :
    ReturnsInHanded {} Try.checked os 3 .any (Rows.fnExactSameRanksSpec.pre6 enc Try.prog Try.f3 Rows.fnExactSameRanksRow.domain false) (Rows.fnExactSameRanksSpec.post enc Try.prog Try.f3 false true false false) := by
  refine returnsInHanded_of_change_sized (C := Try.checked) own started (by kernel_rfl) Try.func3
    (ChangeSpec.witness6 (enc := enc) (C := Try.checked) false ⟨#[], #[.agg #[.int .i64 0, .int .i64 0, .slice none 0 0], .agg #[.int .i64 0, .int .i64 0, .slice none 0 0]], []⟩ 8 (by kernel_rfl) (by kernel_rfl) (by kernel_rfl) (by kernel_rfl)) ?_
  intro W base args ds gs before hval0 hW hcnd hsz0 _
  have hval : ∀ (j : Nat) t v, Try.f3.params[j]? = some t → args[j]? = some v → Value.okWide Try.prog W .any base t v := hval0
  have hW' := hW
  obtain ⟨p, q, hA0, hV, rfl, hfz, hnd⟩ := hW
  have hA : DataW.TrodAll enc Try.prog W 0 (fun _ => true) true Try.f3.params.toList args.toList ds p := hA0
  rw [Try.params3] at hA hval
  obtain ⟨v0, vs0, d0, ds0, p0, q0, hargs, rfl, rfl, h0, r0⟩ := trodAll_cons hA
  obtain ⟨v1, vs1, d1, ds1, p1, q1, rfl, rfl, rfl, h1, r1⟩ := trodAll_cons r0
  obtain ⟨rfl, rfl, rfl⟩ := trodAll_nil r1
  obtain rfl : args = #[v0, v1] := by cases args; simp_all
  obtain ⟨rfl, rfl⟩ := trodVars_none hV
  have lt0 : ∀ x ∈ p0, x.block < W.heap.size := by obtain ⟨m, hm⟩ := h0; exact DataW.trod_lt m _ _ _ hm
  have lt1 : ∀ x ∈ p1, x.block < W.heap.size := by obtain ⟨m, hm⟩ := h1; exact DataW.trod_lt m _ _ _ hm
  have k0 := h0
  have k1 := h1
  obtain ⟨c00, c01, c02, y00, y01, y02, m0, rfl, rfl, rfl, hy00, hy01, hy02⟩ := open_agg3 Try.underlying24 (by kernel_rfl) cells_st (hval 0 24 v0 rfl rfl) h0
  obtain ⟨c10, c11, c12, y10, y11, y12, m1, rfl, rfl, rfl, hy10, hy11, hy12⟩ := open_agg3 Try.underlying24 (by kernel_rfl) cells_st (hval 1 24 v1 rfl rfl) h1
  have R64 : Rb enc Try.prog W 2 (Kd.int .i64) _ := rb_int Try.underlying2 (by kernel_rfl)
  have RS : Rb enc Try.prog W 22 (Kd.slice 2 (Kd.int .i64)) _ := rb_slice Try.underlying22 (by kernel_rfl) R64
  obtain ⟨a, rfl, _⟩ := int_of R64 hy00
  obtain ⟨b, rfl, _⟩ := int_of R64 hy01
  obtain ⟨A0, cap0, l0, rfl, hc0, hC0, hl0, _⟩ := slice_of RS hy02
  obtain ⟨a', rfl, _⟩ := int_of R64 hy10
  obtain ⟨b', rfl, _⟩ := int_of R64 hy11
  obtain ⟨A1, cap1, l1, rfl, hc1, hC1, hl1, _⟩ := slice_of RS hy12
  clear hA0 hval0 hsz0
  obtain ⟨k, hk⟩ := PureSameRanks.law a b a' b' l0 l1 hl0 hl1
  refine (PFnExactSameRanks.laws_FnExactSameRanks.calls k a b A0 cap0 l0 a' b' A1 cap1 l1 true W hC0 hc0 hC1 hc1 hk).mono fun e W' ⟨he, bel⟩ => ?_
  subst he
  exact ⟨_, rfl, _, _, _, [], _, [], hW', trodAll_mk1 (shut_bool Try.underlying4 _), trodAll_cons_mk (Below.trod laidOut (by kernel_rfl) (of_decide_eq_true (by kernel_rfl)) k0 bel lt0) (trodAll_cons_mk (Below.trod laidOut (by kernel_rfl) (of_decide_eq_true (by kernel_rfl)) k1 bel lt1) trodAll_mk0), rfl, bel.frame _, fun h => by cases h⟩
theorem over : Rows.fnExactSameRanksRow.holds Try.pinned (OpenSpec.ofChange Rows.fnExactSameRanksSpec) :=
  OpenClaim.holds_of_wide 3 Try.f3 rfl rfl rfl rfl rfl rfl rfl ⟨rfl, rfl, rfl, rfl, rfl⟩ rfl rfl rfl rfl rfl (by kernel_rfl) Try.func3 (by kernel_rfl)
    (of_decide_eq_true (by kernel_rfl)) (by unfold Func.isWrapper; first | (rw [if_pos (by decide +kernel)]; kernel_rfl) | (rw [if_neg (by decide +kernel)]; exact ⟨rfl, rfl⟩))
    (fun os started H enc _ => lifted os started H enc)
theorem proved : Rows.FnExactSameRanksSaid := over
#print axioms proved
end Go.Proofs.Ytmngmjadjncdhaa.fnExactSameRanks
namespace Go.Proofs.Ytmngmjadjncdhaa
/-- The row, under a short name, for the claim. -/
theorem fnExactSameRanks_holds : Rows.FnExactSameRanksSaid := fnExactSameRanks.proved
end Go.Proofs.Ytmngmjadjncdhaa
