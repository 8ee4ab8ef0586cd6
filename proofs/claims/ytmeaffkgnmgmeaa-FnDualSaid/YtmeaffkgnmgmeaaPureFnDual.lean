/- The plain law of FnDual: what the printed functions compute answers true. No program in sight. -/
import Derived.Test.YtmeaffkgnmgmeaaGx9
import Derived.Test.YtmeaffkgnmgmeaaGx8
import Derived.Test.YtmeaffkgnmgmeaaTMay
import Derived.Test.YtmeaffkgnmgmeaaLattice
namespace Go.Proofs.Ytmeaffkgnmgmeaa.Pure
open Go.RowKit Go.Proofs.YtmeaffkgnmgmeaaW.PrintWords Go.Proofs.YtmeaffkgnmgmeaaW.PrintMore Go.Proofs.Ytmeaffkgnmgmeaa.G Go.Proofs.Ytmeaffkgnmgmeaa.Fam Go.Proofs.Ytmeaffkgnmgmeaa.Loops Go.Proofs.Ytmeaffkgnmgmeaa.Valid Go.Proofs.Ytmeaffkgnmgmeaa.FamLaw Go.Proofs.Ytmeaffkgnmgmeaa.Ops Go.Proofs.Ytmeaffkgnmgmeaa.Lattice Go.Proofs.Ytmeaffkgnmgmeaa.TArg Go.Proofs.Ytmeaffkgnmgmeaa.TSame Go.Proofs.Ytmeaffkgnmgmeaa.Ref Go.Proofs.Ytmeaffkgnmgmeaa.Some Go.Proofs.Ytmeaffkgnmgmeaa.TMay
set_option linter.unusedVariables false
set_option maxRecDepth 100000

/-! ### all others -/
/-- Those below h that are not in c. -/
def restN (c h : Nat) : Nat := 2 ^ h - 1 - c % 2 ^ h
theorem rest_step_all : ∀ h : Fin 7, ∀ c : Fin 128, groupN (restN c.val (h.val + 1)) = if c.val.testBit h.val = true then groupN (restN c.val h.val) else groupN (restN c.val h.val) ++ [((h.val : Nat) : Int)] := by decide +kernel
theorem has_loop (g : List Int) (x : Int) (hl : g.length ≤ 9223372036854775807) : ∀ (d i : Nat), i ≤ g.length → g.length - i = d → Ev (fun k => laws_a2Has.l0 k g x (i : Int)) (decide (x ∈ g.drop i)) := by
  intro d
  induction d with
  | zero =>
    intro i hi hd
    obtain rfl : i = g.length := by omega
    refine Ev.step (f := fun _ => some false) (fun k => by simp only [laws_a2Has.l0]; rw [if_neg (by omega)]) ?_
    rw [List.drop_length]
    exact Ev.now _
  | succ d ih =>
    intro i hi hd
    have hlt : i < g.length := by omega
    have h1 := ih (i + 1) (by omega) (by omega)
    rw [List.drop_eq_getElem_cons hlt]
    by_cases e : g[i] = x
    · refine Ev.step (f := fun _ => some true) (fun k => ?_) ?_
      · simp only [laws_a2Has.l0]
        rw [if_pos (by omega), if_pos (by omega), rd_nat]
        simp only [List.getD, List.getElem?_eq_getElem hlt, Option.getD_some]
        rw [if_pos e]
      · rw [decide_eq_true (by simp [e])]
        exact Ev.now _
    · refine Ev.step (fun k => ?_) (show Ev (fun k => laws_a2Has.l0 k g x ((i + 1 : Nat) : Int)) (decide (x ∈ g[i] :: g.drop (i + 1))) from ?_)
      · simp only [laws_a2Has.l0]
        rw [if_pos (by omega), if_pos (by omega), rd_nat]
        simp only [List.getD, List.getElem?_eq_getElem hlt, Option.getD_some]
        rw [if_neg e, wrap_id (by omega) (by omega)]
        rfl
      · rw [decide_eq_decide.2 (show x ∈ g[i] :: g.drop (i + 1) ↔ x ∈ g.drop (i + 1) from by rw [List.mem_cons]; exact ⟨fun h => h.resolve_left (fun h' => e h'.symm), .inr⟩)]
        exact h1
theorem has_group {c h : Nat} (hh : h < 7) : Ev (fun k => laws_a2Has.f k (groupN c) (h : Int)) (c.testBit h) := by
  have hl : (groupN c).length ≤ 7 := by
    unfold groupN
    rw [List.length_map]
    have := List.length_filter_le c.testBit (List.range 7)
    simpa using this
  have h1 := has_loop (groupN c) (h : Int) (by omega) (groupN c).length 0 (by omega) (by omega)
  rw [List.drop_zero] at h1
  have : decide ((h : Int) ∈ groupN c) = c.testBit h := by
    rw [Bool.eq_iff_iff, decide_eq_true_iff, groupN_mem]
    rw [Int.toNat_natCast]
    exact ⟨fun h => h.2.2, fun h' => ⟨by omega, by omega, h'⟩⟩
  rw [this] at h1
  exact h1
theorem others_loop (n : Nat) (hn : n ≤ 7) (c : Nat) (hc : c < 128) : ∀ (d h : Nat), h ≤ n → n - h = d → Ev (fun k => laws_a2Others.l0 k (groupN c) (n : Int) (groupN (restN c h)) (h : Int)) (groupN (restN c n)) := by
  intro d
  induction d with
  | zero =>
    intro h hh hd
    obtain rfl : h = n := by omega
    refine Ev.step (f := fun _ => some (groupN (restN c h))) (fun k => ?_) (Ev.now _)
    simp only [laws_a2Others.l0]
    rw [if_neg (by omega)]
  | succ d ih =>
    intro h hh hd
    have h1 := ih (h + 1) (by omega) (by omega)
    have hw : wrap64 ((h : Int) + 1) = ((h + 1 : Nat) : Int) := by rw [wrap_id (by omega) (by omega)]; omega
    have hs := rest_step_all ⟨h, by omega⟩ ⟨c, hc⟩
    simp only at hs
    have hlen : (groupN (restN c h)).length < 17592186044416 := by
      unfold groupN
      rw [List.length_map]
      have := List.length_filter_le (restN c h).testBit (List.range 7)
      have h2 : (List.range 7).length = 7 := by simp
      omega
    refine Ev.step (f := fun k => (laws_a2Has.f k (groupN c) (h : Int)).bind fun t271 => (if t271 = true then (laws_a2Others.l0 k (groupN c) (n : Int) (groupN (restN c h)) (wrap64 ((h : Int) + 1))) else (if (groupN (restN c h)).length < 17592186044416 then (laws_a2Others.l0 k (groupN c) (n : Int) (groupN (restN c h) ++ [(h : Int)]) (wrap64 ((h : Int) + 1))) else (none)))) (fun k => ?_) (Ev.bind (has_group (c := c) (show h < 7 by omega)) ?_)
    · simp only [laws_a2Others.l0]
      rw [if_pos (by omega)]
    · cases ht : c.testBit h with
      | true =>
        rw [ht, if_pos rfl] at hs
        rw [hs] at h1
        simp only [if_true]
        rw [hw]
        exact h1
      | false =>
        rw [ht, if_neg (by simp)] at hs
        rw [hs] at h1
        simp only [Bool.false_eq_true, if_false, hlen, if_true]
        rw [hw]
        exact h1
theorem rest_full {n c : Nat} (hc : c < 2 ^ n) : restN c n = 2 ^ n - 1 - c := by unfold restN; rw [Nat.mod_eq_of_lt hc]
theorem others_is {n : Nat} (hn : n ≤ 7) {c : Nat} (hc : c < 2 ^ n) : Ev (fun k => laws_a2Others.f k (groupN c) (n : Int)) (groupN (2 ^ n - 1 - c)) := by
  have h7 := two_pow_le hn
  have := others_loop n hn c (by omega) n 0 (Nat.zero_le _) rfl
  rw [rest_full hc] at this
  have e0 : groupN (restN c 0) = [] := by
    have : restN c 0 = 0 := by unfold restN; simp
    rw [this]; decide
  rw [e0] at this
  exact this

/-! ### duals -/
theorem rest_lt {n c : Nat} : 2 ^ n - 1 - c < 2 ^ n := by have := Nat.two_pow_pos n; omega
theorem rest_rest {n c : Nat} (hc : c < 2 ^ n) : 2 ^ n - 1 - (2 ^ n - 1 - c) = c := by omega
theorem rest_sub_all : ∀ n : Fin 8, ∀ c : Fin 128, ∀ d : Fin 128, c.val < 2 ^ n.val → d.val < 2 ^ n.val → d.val &&& c.val = c.val → (2 ^ n.val - 1 - c.val) &&& (2 ^ n.val - 1 - d.val) = 2 ^ n.val - 1 - d.val := by
  intro n c d hc hd h
  have bit : ∀ x, x < 2 ^ n.val → ∀ i, (2 ^ n.val - 1 - x).testBit i = (decide (i < n.val) && !x.testBit i) := by
    intro x hx i
    have := Nat.testBit_two_pow_sub_succ hx i
    rwa [show 2 ^ n.val - (x + 1) = 2 ^ n.val - 1 - x by omega] at this
  apply Nat.eq_of_testBit_eq
  intro i
  rw [Nat.testBit_and, bit c.val hc, bit d.val hd]
  cases hci : c.val.testBit i with
  | false => cases decide (i < n.val) <;> simp
  | true =>
    have := congrArg (fun x => x.testBit i) h
    simp only [Nat.testBit_and, hci, Bool.and_true] at this
    rw [this]; simp
theorem rest_sub {n : Nat} (hn : n ≤ 7) {c d : Nat} (hc : c < 2 ^ n) (hd : d < 2 ^ n) (h : d &&& c = c) : (2 ^ n - 1 - c) &&& (2 ^ n - 1 - d) = 2 ^ n - 1 - d := by
  have h7 := two_pow_le hn
  exact rest_sub_all ⟨n, by omega⟩ ⟨c, by omega⟩ ⟨d, by omega⟩ hc hd h
theorem dual_mono {n : Nat} {gs : List (List Int)} (h : ValidF (n : Int) gs) : Mono n (dualP n gs) := by
  have hn : n ≤ 7 := by have := h.1; omega
  intro c d hc hd hs hp
  unfold dualP at *
  rw [Bool.not_eq_true'] at *
  cases hq : openN gs (2 ^ n - 1 - d) with
  | false => rfl
  | true =>
    have := open_mono h (2 ^ n - 1 - d) (2 ^ n - 1 - c) rest_lt rest_lt (rest_sub hn hc hd hs) hq
    rw [this] at hp; cases hp
theorem dual_is {n : Nat} {gs : List (List Int)} (h : ValidF (n : Int) gs) : impl_DualFamily.f (n : Int) gs = some ((n : Int), famN n (dualP n gs), 0) := by
  show some (DualF _ _) = _
  unfold DualF
  rw [if_pos h, Int.toNat_natCast]
theorem two_zero' {n : Nat} {gs hs : List (List Int)} (h1 : ValidF (n : Int) gs) (h2 : ValidF (n : Int) hs) : twoC (n : Int) gs (n : Int) hs = 0 := by
  unfold twoC
  rw [if_pos ⟨h1, h2⟩, if_pos rfl]
theorem either_is' {n : Nat} {gs hs : List (List Int)} (h1 : ValidF (n : Int) gs) (h2 : ValidF (n : Int) hs) : impl_EitherFamily.f (n : Int) gs (n : Int) hs = some ((n : Int), famN n (eitherP gs hs), 0) := by
  show some (EitherFamilyF _ _ _ _) = _
  unfold EitherFamilyF
  rw [if_pos (two_zero' h1 h2), Int.toNat_natCast]
theorem both_is' {n : Nat} {gs hs : List (List Int)} (h1 : ValidF (n : Int) gs) (h2 : ValidF (n : Int) hs) : impl_BothFamilies.f (n : Int) gs (n : Int) hs = some ((n : Int), famN n (bothP gs hs), 0) := by
  show some (BothFamiliesF _ _ _ _) = _
  unfold BothFamiliesF
  rw [if_pos (two_zero' h1 h2), Int.toNat_natCast]
theorem either_mono' {n : Nat} {gs hs : List (List Int)} (h1 : ValidF (n : Int) gs) (h2 : ValidF (n : Int) hs) : Mono n (eitherP gs hs) := by
  intro c d hc hd hs' hp
  unfold eitherP at *
  rw [Bool.or_eq_true] at *
  exact hp.imp (open_mono h1 c d hc hd hs') (open_mono h2 c d hc hd hs')

theorem FnDual : laws_FnDual.Pure := by
  intro l0 l1 _ _ hw0 _ _ hw1
  refine Ev.rounds (g := fun k => laws_FnDual.f k l0 l1) ?_
  unfold laws_FnDual.f
  rw [long_is]
  simp only [Option.bind_some]
  by_cases hlong : l0.length > 3000 ∨ l1.length > 3000
  · simp only [decide_eq_true hlong, if_true]; exact Ev.now true
  · simp only [decide_eq_false hlong, Bool.false_eq_true, if_false]
    obtain ⟨nI, gs, hf, n1, n5, hv⟩ := famF_ok l0 (bytes_of hw0)
    obtain ⟨n, rfl⟩ : ∃ n : Nat, nI = (n : Int) := ⟨nI.toNat, by omega⟩
    have hn : n ≤ 7 := by omega
    obtain ⟨hs, hg, hv2⟩ := famOfF_ok l1 (bytes_of hw1) (n : Int) (by omega) (by omega)
    have hA : spec_A2Family.f l0 = some ((n : Int), gs) := hf
    have hB : spec_A2FamilyOf.f l1 (n : Int) = some ((n : Int), hs) := hg
    obtain ⟨c, hc, hG⟩ := group_drawn l1 (bytes_of hw1) n hn
    have hvd := fam_valid hv (dual_mono hv)
    have hve := fam_valid hv2 (dual_mono hv2)
    have hvE := fam_valid hv (either_mono' hv hv2)
    have hod : ∀ d, d < 2 ^ n → openN (famN n (dualP n gs)) d = !openN gs (2 ^ n - 1 - d) := fun d hd => openN_famN hn (dual_mono hv) hd
    have hoe : ∀ d, d < 2 ^ n → openN (famN n (dualP n hs)) d = !openN hs (2 ^ n - 1 - d) := fun d hd => openN_famN hn (dual_mono hv2) hd
    have hback : famN n (dualP n (famN n (dualP n gs))) = gs := by
      rw [famN_congr (q := openN gs) (fun d hd => ?_), famN_openN hn hv]
      show (!openN (famN n (dualP n gs)) (2 ^ n - 1 - d)) = _
      rw [hod _ rest_lt, rest_rest hd, Bool.not_not]
    have hturn : famN n (dualP n (famN n (eitherP gs hs))) = famN n (bothP (famN n (dualP n gs)) (famN n (dualP n hs))) := by
      refine famN_congr (fun d hd => ?_)
      show (!openN (famN n (eitherP gs hs)) (2 ^ n - 1 - d)) = (openN (famN n (dualP n gs)) d && openN (famN n (dualP n hs)) d)
      rw [hod d hd, hoe d hd, openN_famN hn (either_mono' hv hv2) rest_lt]
      show (!(openN gs _ || openN hs _)) = _
      rw [Bool.not_or]
    have hvt := fam_valid hvE (dual_mono hvE)
    have hvb : ValidF (n : Int) (famN n (bothP (famN n (dualP n gs)) (famN n (dualP n hs)))) := hturn ▸ hvt
    rw [hA]
    simp only [Option.bind_some]
    rw [hB]
    simp only [Option.bind_some]
    refine Ev.bind hG ?_
    rw [dual_is hv, dual_is hv2]
    simp only [Option.bind_some]
    rw [dual_is hvd, hback]
    simp only [Option.bind_some]
    refine Ev.bind (may_is hvd hc) ?_
    refine Ev.bind (others_is hn hc) ?_
    refine Ev.bind (may_is hv rest_lt) ?_
    rw [hod c hc]
    have hne : ((!openN gs (2 ^ n - 1 - c)) == openN gs (2 ^ n - 1 - c)) = false := by cases openN gs (2 ^ n - 1 - c) <;> rfl
    simp only [if_true, hne, Bool.false_eq_true, if_false]
    refine Ev.bind (same_yes hv hv rfl) ?_
    refine Ev.step (f := fun k => (spec_SameFamily.f k (n : Int) (famN n (bothP (famN n (dualP n gs)) (famN n (dualP n hs)))) (n : Int) (famN n (bothP (famN n (dualP n gs)) (famN n (dualP n hs))))).bind fun t323 => (some t323)) (fun k => ?_) (Ev.bind (same_yes hvb hvb rfl) (Ev.now true))
    simp only [laws_FnDual.j0, Bool.not_true, Bool.false_eq_true, if_false]
    rw [either_is' hv hv2, both_is' hvd hve]
    simp only [Option.bind_some]
    rw [dual_is hvE, hturn]
    simp only [Option.bind_some, if_true]

end Go.Proofs.Ytmeaffkgnmgmeaa.Pure
