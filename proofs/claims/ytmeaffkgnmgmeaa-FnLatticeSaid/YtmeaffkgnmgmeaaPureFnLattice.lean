/- The plain law of FnLattice: what the printed functions compute answers true. No program in sight. -/
import Derived.Test.YtmeaffkgnmgmeaaGx7
import Derived.Test.YtmeaffkgnmgmeaaTMay
namespace Go.Proofs.Ytmeaffkgnmgmeaa.Pure
open Go.RowKit Go.Proofs.YtmeaffkgnmgmeaaW.PrintWords Go.Proofs.YtmeaffkgnmgmeaaW.PrintMore Go.Proofs.Ytmeaffkgnmgmeaa.G Go.Proofs.Ytmeaffkgnmgmeaa.Fam Go.Proofs.Ytmeaffkgnmgmeaa.Loops Go.Proofs.Ytmeaffkgnmgmeaa.Valid Go.Proofs.Ytmeaffkgnmgmeaa.FamLaw Go.Proofs.Ytmeaffkgnmgmeaa.Ops Go.Proofs.Ytmeaffkgnmgmeaa.Lattice Go.Proofs.Ytmeaffkgnmgmeaa.TArg Go.Proofs.Ytmeaffkgnmgmeaa.TSame Go.Proofs.Ytmeaffkgnmgmeaa.Ref Go.Proofs.Ytmeaffkgnmgmeaa.Some Go.Proofs.Ytmeaffkgnmgmeaa.TMay
set_option linter.unusedVariables false
set_option maxRecDepth 100000

theorem two_zero {n : Nat} {gs hs : List (List Int)} (h1 : ValidF (n : Int) gs) (h2 : ValidF (n : Int) hs) : twoC (n : Int) gs (n : Int) hs = 0 := by
  unfold twoC
  rw [if_pos ⟨h1, h2⟩, if_pos rfl]
theorem either_is {n : Nat} {gs hs : List (List Int)} (h1 : ValidF (n : Int) gs) (h2 : ValidF (n : Int) hs) : impl_EitherFamily.f (n : Int) gs (n : Int) hs = some ((n : Int), famN n (eitherP gs hs), 0) := by
  show some (EitherFamilyF _ _ _ _) = _
  unfold EitherFamilyF
  rw [if_pos (two_zero h1 h2), Int.toNat_natCast]
theorem both_is {n : Nat} {gs hs : List (List Int)} (h1 : ValidF (n : Int) gs) (h2 : ValidF (n : Int) hs) : impl_BothFamilies.f (n : Int) gs (n : Int) hs = some ((n : Int), famN n (bothP gs hs), 0) := by
  show some (BothFamiliesF _ _ _ _) = _
  unfold BothFamiliesF
  rw [if_pos (two_zero h1 h2), Int.toNat_natCast]
theorem either_mono {n : Nat} {gs hs : List (List Int)} (h1 : ValidF (n : Int) gs) (h2 : ValidF (n : Int) hs) : Mono n (eitherP gs hs) := by
  intro c d hc hd hs' hp
  unfold eitherP at *
  rw [Bool.or_eq_true] at *
  exact hp.imp (open_mono h1 c d hc hd hs') (open_mono h2 c d hc hd hs')
theorem both_mono {n : Nat} {gs hs : List (List Int)} (h1 : ValidF (n : Int) gs) (h2 : ValidF (n : Int) hs) : Mono n (bothP gs hs) := by
  intro c d hc hd hs' hp
  unfold bothP at *
  rw [Bool.and_eq_true] at *
  exact ⟨open_mono h1 c d hc hd hs' hp.1, open_mono h2 c d hc hd hs' hp.2⟩

theorem FnLattice : laws_FnLattice.Pure := by
  intro l0 l1 _ _ hw0 _ _ hw1
  refine Ev.rounds (g := fun k => laws_FnLattice.f k l0 l1) ?_
  unfold laws_FnLattice.f
  rw [long_is]
  simp only [Option.bind_some]
  by_cases hlong : l0.length > 3000 ∨ l1.length > 3000
  · simp only [decide_eq_true hlong, if_true]; exact Ev.now true
  · simp only [decide_eq_false hlong, Bool.false_eq_true, if_false]
    obtain ⟨nI, gs, hf, n1, n5, hv⟩ := famF_ok l0 (bytes_of hw0)
    obtain ⟨n, rfl⟩ : ∃ n : Nat, nI = (n : Int) := ⟨nI.toNat, by omega⟩
    have hn : n ≤ 7 := by omega
    obtain ⟨hs, hg, hv2⟩ := famOfF_ok l1 (bytes_of hw1) (n : Int) (by omega) (by omega)
    have hA : spec_A2Family.f l0 = some ((n : Int), gs) := hf
    have hB : spec_A2FamilyOf.f l1 (n : Int) = some ((n : Int), hs) := hg
    obtain ⟨c, hc, hG⟩ := group_drawn l0 (bytes_of hw0) n hn
    have hvE := fam_valid hv (either_mono hv hv2)
    have hvB := fam_valid hv (both_mono hv hv2)
    have hu : openN (famN n (eitherP gs hs)) c = (openN gs c || openN hs c) := openN_famN hn (either_mono hv hv2) hc
    have hw : openN (famN n (bothP gs hs)) c = (openN gs c && openN hs c) := openN_famN hn (both_mono hv hv2) hc
    have e1 : famN n (bothP gs (famN n (eitherP gs hs))) = gs := by
      rw [famN_congr (q := openN gs) (fun d hd => ?_), famN_openN hn hv]
      show (openN gs d && openN (famN n (eitherP gs hs)) d) = _
      rw [openN_famN hn (either_mono hv hv2) hd]
      show (openN gs d && (openN gs d || openN hs d)) = _
      cases openN gs d <;> simp
    have e2 : famN n (eitherP gs gs) = gs := by
      rw [famN_congr (q := openN gs) (fun d hd => ?_), famN_openN hn hv]
      show (openN gs d || openN gs d) = _
      cases openN gs d <;> rfl
    rw [hA]
    simp only [Option.bind_some]
    rw [hB]
    simp only [Option.bind_some]
    refine Ev.bind hG ?_
    rw [either_is hv hv2, both_is hv hv2]
    simp only [Option.bind_some]
    refine Ev.bind (may_is hv hc) ?_
    refine Ev.bind (may_is hv2 hc) ?_
    refine Ev.bind (may_is hvE hc) ?_
    refine Ev.bind (may_is hvB hc) ?_
    rw [both_is hv hvE, either_is hv hv, hu, hw, e1, e2]
    simp only [Option.bind_some, if_true, bne_self_eq_false]
    have hS := same_yes hv hv rfl
    refine Ev.step (f := fun k => (spec_SameFamily.f k (n : Int) gs (n : Int) gs).bind fun t253 => (if t253 = true then ((spec_SameFamily.f k (n : Int) gs (n : Int) gs).bind fun t254 => (some t254)) else (some false))) (fun k => ?_) ?_
    · simp only [laws_FnLattice.j0]
      cases openN gs c <;> cases openN hs c <;> rfl
    · refine Ev.bind hS ?_
      simp only [if_true]
      exact Ev.bind hS (Ev.now true)

end Go.Proofs.Ytmeaffkgnmgmeaa.Pure
