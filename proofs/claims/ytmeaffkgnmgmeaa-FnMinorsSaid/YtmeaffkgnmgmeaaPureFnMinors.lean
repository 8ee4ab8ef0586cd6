/- The plain law of FnMinors: what the printed functions compute answers true. No program in sight. -/
import Derived.Test.YtmeaffkgnmgmeaaGx8
import Derived.Test.YtmeaffkgnmgmeaaTWide
import Derived.Test.YtmeaffkgnmgmeaaTAt
namespace Go.Proofs.Ytmeaffkgnmgmeaa.Pure
open Go.RowKit Go.Proofs.YtmeaffkgnmgmeaaW.PrintWords Go.Proofs.YtmeaffkgnmgmeaaW.PrintMore Go.Proofs.Ytmeaffkgnmgmeaa.G Go.Proofs.Ytmeaffkgnmgmeaa.Fam Go.Proofs.Ytmeaffkgnmgmeaa.Loops Go.Proofs.Ytmeaffkgnmgmeaa.Valid Go.Proofs.Ytmeaffkgnmgmeaa.FamLaw Go.Proofs.Ytmeaffkgnmgmeaa.Ops Go.Proofs.Ytmeaffkgnmgmeaa.TArg Go.Proofs.Ytmeaffkgnmgmeaa.TSame Go.Proofs.Ytmeaffkgnmgmeaa.Ref Go.Proofs.Ytmeaffkgnmgmeaa.Some Go.Proofs.Ytmeaffkgnmgmeaa.TMay Go.Proofs.Ytmeaffkgnmgmeaa.Leave Go.Proofs.Ytmeaffkgnmgmeaa.TWide
set_option linter.unusedVariables false
set_option maxRecDepth 100000

theorem rest_lt {n c : Nat} : 2 ^ n - 1 - c < 2 ^ n := by have := Nat.two_pow_pos n; omega
theorem rest_sub {n : Nat} {c d : Nat} (hc : c < 2 ^ n) (hd : d < 2 ^ n) (h : d &&& c = c) : (2 ^ n - 1 - c) &&& (2 ^ n - 1 - d) = 2 ^ n - 1 - d := by
  have bit : ∀ x, x < 2 ^ n → ∀ i, (2 ^ n - 1 - x).testBit i = (decide (i < n) && !x.testBit i) := by
    intro x hx i
    have := Nat.testBit_two_pow_sub_succ hx i
    rwa [show 2 ^ n - (x + 1) = 2 ^ n - 1 - x by omega] at this
  apply Nat.eq_of_testBit_eq
  intro i
  rw [Nat.testBit_and, bit c hc, bit d hd]
  cases hci : c.testBit i with
  | false => cases decide (i < n) <;> simp
  | true =>
    have := congrArg (fun x => x.testBit i) h
    simp only [Nat.testBit_and, hci, Bool.and_true] at this
    rw [this]; simp
theorem dual_mono {n : Nat} {gs : List (List Int)} (h : ValidF (n : Int) gs) : Mono n (dualP n gs) := by
  intro c d hc hd hs hp
  unfold dualP at *
  rw [Bool.not_eq_true'] at *
  cases hq : openN gs (2 ^ n - 1 - d) with
  | false => rfl
  | true =>
    have := open_mono h (2 ^ n - 1 - d) (2 ^ n - 1 - c) rest_lt rest_lt (rest_sub hc hd hs) hq
    rw [this] at hp; cases hp
theorem dual_is {n : Nat} {gs : List (List Int)} (h : ValidF (n : Int) gs) : impl_DualFamily.f (n : Int) gs = some ((n : Int), famN n (dualP n gs), 0) := by
  show some (DualF _ _) = _
  unfold DualF
  rw [if_pos h, Int.toNat_natCast]
theorem leaveF_is {m : Nat} {gs : List (List Int)} (hv : ValidF ((m + 1 : Nat) : Int) gs) (hm1 : 1 ≤ m) {h : Nat} (hh : h ≤ m) (t : Nat) : LeaveF ((m + 1 : Nat) : Int) gs (h : Int) t = ((m : Int), famN m (leaveP gs h t), 0) := by
  unfold LeaveF
  rw [if_pos hv, if_pos ⟨by omega, by omega⟩, if_neg (by omega)]
  rw [show ((m + 1 : Nat) : Int) - 1 = (m : Int) by omega, Int.toNat_natCast, Int.toNat_natCast]

theorem FnMinors : laws_FnMinors.Pure := by
  intro l0 l1 _ _ hw0 _ _ hw1
  refine Ev.rounds (g := fun k => laws_FnMinors.f k l0 l1) ?_
  unfold laws_FnMinors.f
  rw [long_is]
  simp only [Option.bind_some]
  by_cases hlong : l0.length > 3000 ∨ l1.length > 3000
  · simp only [decide_eq_true hlong, if_true]; exact Ev.now true
  · simp only [decide_eq_false hlong, Bool.false_eq_true, if_false]
    obtain ⟨nI, gs, hf, n1, n5, hv⟩ := famF_ok l0 (bytes_of hw0)
    have hA : spec_A2Family.f l0 = some (nI, gs) := hf
    rw [hA]
    simp only [Option.bind_some]
    obtain ⟨r, hr, hr0, hr1⟩ := at_is l1 0 nI hw1 (by omega) (by omega)
    rw [hr]
    simp only [Option.bind_some]
    obtain ⟨h, rfl⟩ : ∃ h : Nat, r = (h : Int) := ⟨r.toNat, by omega⟩
    by_cases e1 : nI = 1
    · subst e1
      have hl : ∀ t, LeaveF 1 gs (h : Int) t = (0, [], 4) := fun t => by unfold LeaveF; rw [if_pos hv, if_pos ⟨by omega, by omega⟩, if_pos rfl]
      have hW : impl_WithoutHolder.f 1 gs (h : Int) = some (0, [], 4) := by show some (LeaveF 1 gs (h : Int) 0) = _; rw [hl]
      have hT : impl_TrustHolder.f 1 gs (h : Int) = some (0, [], 4) := by show some (LeaveF 1 gs (h : Int) 1) = _; rw [hl]
      rw [hW, hT]
      exact Ev.now true
    · obtain ⟨m, rfl⟩ : ∃ m : Nat, nI = ((m + 1 : Nat) : Int) := ⟨(nI - 1).toNat, by omega⟩
      have hm : m ≤ 6 := by omega
      have hm1 : 1 ≤ m := by omega
      have hh : h ≤ m := by omega
      have hn : m + 1 ≤ 7 := by omega
      have h6 := two6 hm
      have hW : impl_WithoutHolder.f ((m + 1 : Nat) : Int) gs (h : Int) = some ((m : Int), famN m (leaveP gs h 0), 0) := by show some (LeaveF _ gs (h : Int) 0) = _; rw [leaveF_is hv hm1 hh]
      have hT : impl_TrustHolder.f ((m + 1 : Nat) : Int) gs (h : Int) = some ((m : Int), famN m (leaveP gs h 1), 0) := by show some (LeaveF _ gs (h : Int) 1) = _; rw [leaveF_is hv hm1 hh]
      rw [hW, hT]
      simp only [Option.bind_some, e1, if_false]
      have hw : wrap64 (((m + 1 : Nat) : Int) - 1) = (m : Int) := by rw [wrap_id (by omega) (by omega)]; omega
      rw [hw]
      obtain ⟨c, hc, hG⟩ := group_drawn l1 (bytes_of hw1) m (by omega)
      have hvL : ValidF (m : Int) (famN m (leaveP gs h 0)) := famN_valid hm1 (by omega) (leave_mono hm hv hh (by omega))
      have hvT : ValidF (m : Int) (famN m (leaveP gs h 1)) := famN_valid hm1 (by omega) (leave_mono hm hv hh (by omega))
      have hvd := fam_valid hv (dual_mono hv)
      have hoL : ∀ d, d < 2 ^ m → openN (famN m (leaveP gs h 0)) d = openN gs (wideN d h) := fun d hd => by
        rw [openN_famN (by omega) (leave_mono hm hv hh (by omega)) hd]; unfold leaveP; simp
      have hoT : openN (famN m (leaveP gs h 1)) c = openN gs (wideN c h ||| 1 <<< h) := openN_famN (by omega) (leave_mono hm hv hh (by omega)) hc
      have hturn : famN m (dualP m (famN m (leaveP gs h 0))) = famN m (leaveP (famN (m + 1) (dualP (m + 1) gs)) h 1) := by
        refine famN_congr (fun d hd => ?_)
        show (!openN (famN m (leaveP gs h 0)) (2 ^ m - 1 - d)) = openN (famN (m + 1) (dualP (m + 1) gs)) (wideN d h ||| 1 <<< h)
        rw [hoL _ rest_lt, openN_famN hn (dual_mono hv) (leave_lt hm hh (by omega) hd)]
        show _ = !openN gs (2 ^ (m + 1) - 1 - (wideN d h ||| 1 <<< h))
        rw [wide_rest_all ⟨m, by omega⟩ ⟨h, by omega⟩ ⟨d, by omega⟩ hd hh]
      have hTd : impl_TrustHolder.f ((m + 1 : Nat) : Int) (famN (m + 1) (dualP (m + 1) gs)) (h : Int) = some ((m : Int), famN m (leaveP (famN (m + 1) (dualP (m + 1) gs)) h 1), 0) := by
        show some (LeaveF _ _ (h : Int) 1) = _; rw [leaveF_is hvd hm1 hh]
      have hvt := fam_valid hvL (dual_mono hvL)
      refine Ev.bind hG ?_
      refine Ev.bind (may_is hvL hc) ?_
      have a0 := awide_is (c := c) (h := h) (t := 0) (by omega) (by omega) (by omega)
      have a1 := awide_is (c := c) (h := h) (t := 1) (by omega) (by omega) (by omega)
      rw [show decide (0 = 1) = false from rfl] at a0
      rw [show decide (1 = 1) = true from rfl] at a1
      refine Ev.bind a0 ?_
      refine Ev.bind (may_is hv (leave_lt hm hh (by omega) hc)) ?_
      refine Ev.bind (may_is hvT hc) ?_
      refine Ev.bind a1 ?_
      refine Ev.bind (may_is hv (leave_lt hm hh (by omega) hc)) ?_
      rw [hoL c hc, hoT]
      simp only [if_true, Nat.zero_shiftLeft, Nat.or_zero, bne_self_eq_false, Bool.false_eq_true, if_false]
      refine Ev.step (f := fun k => (spec_SameFamily.f k (m : Int) (famN m (dualP m (famN m (leaveP gs h 0)))) (m : Int) (famN m (dualP m (famN m (leaveP gs h 0))))).bind fun t => (some t)) (fun k => ?_) (Ev.bind (same_yes hvt hvt rfl) (Ev.now true))
      simp only [laws_FnMinors.j0, Bool.false_eq_true, if_false]
      rw [dual_is hv, dual_is hvL]
      simp only [Option.bind_some]
      rw [hTd, hturn]
      simp only [Option.bind_some, if_true]

end Go.Proofs.Ytmeaffkgnmgmeaa.Pure
