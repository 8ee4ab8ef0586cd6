/- The plain law of FnOpens: what the printed functions compute answers true. No program in sight. -/
import Derived.Test.YtmanloolbpmgiaaGx8
import Derived.Test.YtmanloolbpmgiaaTHas
import Derived.Test.YtmanloolbpmgiaaTAt
import Derived.Test.YtmanloolbpmgiaaOpening
namespace Go.Proofs.Ytmanloolbpmgiaa.Pure
open Go.RowKit Go.Proofs.YtmanloolbpmgiaaW.PrintWords Go.Proofs.YtmanloolbpmgiaaW.PrintMore Go.Proofs.Ytmanloolbpmgiaa.G Go.Proofs.Ytmanloolbpmgiaa.Fam Go.Proofs.Ytmanloolbpmgiaa.Loops Go.Proofs.Ytmanloolbpmgiaa.Valid Go.Proofs.Ytmanloolbpmgiaa.FamLaw Go.Proofs.Ytmanloolbpmgiaa.Ops Go.Proofs.Ytmanloolbpmgiaa.Opening Go.Proofs.Ytmanloolbpmgiaa.TArg Go.Proofs.Ytmanloolbpmgiaa.TSame Go.Proofs.Ytmanloolbpmgiaa.Some Go.Proofs.Ytmanloolbpmgiaa.TMay Go.Proofs.Ytmanloolbpmgiaa.THas
set_option linter.unusedVariables false
set_option maxRecDepth 100000

/-! ### sets -/
theorem sub_group {n c d : Nat} (hn : n ≤ 7) (hc : c < 2 ^ n) : (∀ x ∈ groupN c, x ∈ groupN d) ↔ d &&& c = c := by
  rw [sub_iff hn hc]
  constructor
  · intro h i hi hb
    have := h (i : Int) (groupN_mem.2 ⟨by omega, by omega, by simpa using hb⟩)
    have := (groupN_mem.1 this).2.2
    simpa using this
  · intro h x hx
    obtain ⟨h0, h1, h2⟩ := groupN_mem.1 hx
    exact groupN_mem.2 ⟨h0, h1, h _ (lt_of_bit hc h2) h2⟩
theorem add_sub {c h : Nat} : (c ||| 1 <<< h) &&& c = c := by
  apply Nat.eq_of_testBit_eq
  intro i
  rw [Nat.testBit_and, Nat.testBit_or]
  cases c.testBit i <;> simp
theorem add_lt {n c h : Nat} (hc : c < 2 ^ n) (hh : h < n) : c ||| 1 <<< h < 2 ^ n := by
  apply Nat.or_lt_two_pow hc
  rw [Nat.one_shiftLeft]
  exact Nat.pow_lt_pow_right (by omega) hh
theorem add_gt {c h : Nat} (ht : c.testBit h = false) : c < c ||| 1 <<< h := by
  refine Nat.lt_of_le_of_ne Nat.left_le_or (fun e => ?_)
  have h1 := congrArg (fun x => x.testBit h) e
  simp only [Nat.testBit_or, Nat.one_shiftLeft, Nat.testBit_two_pow, ht, Bool.false_or] at h1
  simp at h1
theorem blocked_above {n : Nat} (hn : n ≤ 7) (gs : List (List Int)) : ∀ (m c : Nat), c < 2 ^ n → 2 ^ n - c = m → openN gs c = false → ∃ b, b < 2 ^ n ∧ b &&& c = c ∧ blockedP n gs b = true := by
  intro m
  induction m using Nat.strongRecOn with
  | _ m ih =>
    intro c hc hm ho
    cases hb : blockedP n gs c with
    | true => exact ⟨c, hc, Nat.and_self c, hb⟩
    | false =>
      unfold blockedP at hb
      rw [ho] at hb
      simp only [Bool.not_false, Bool.true_and] at hb
      rw [List.all_eq_false] at hb
      obtain ⟨h, hh, hx⟩ := hb
      have hhn := List.mem_range.1 hh
      simp only [Bool.or_eq_true, not_or, Bool.not_eq_true] at hx
      have hgt := add_gt hx.1
      have hlt := add_lt hc hhn
      obtain ⟨b, h1, h2, h3⟩ := ih (2 ^ n - (c ||| 1 <<< h)) (by omega) _ hlt rfl hx.2
      exact ⟨b, h1, sub_trans hn hc hlt add_sub h2, h3⟩
theorem within_is' {n : Nat} {gs : List (List Int)} (hv : ValidF (n : Int) gs) {c : Nat} (hc : c < 2 ^ n) : (crowdsN n (blockedP n gs)).any (fun g => decide (∀ x ∈ groupN c, x ∈ g)) = !openN gs c := by
  have hn : n ≤ 7 := by have := hv.1; omega
  cases ho : openN gs c with
  | true =>
    rw [Bool.not_true, List.any_eq_false]
    intro g hg hx
    obtain ⟨b, hb, hp, rfl⟩ := mem_crowdsN.1 hg
    have h1 := (sub_group hn hc).1 (of_decide_eq_true hx)
    have h2 := open_mono hv c b hc hb h1 ho
    unfold blockedP at hp
    rw [h2] at hp
    cases hp
  | false =>
    rw [Bool.not_false, List.any_eq_true]
    obtain ⟨b, hb, h1, hp⟩ := blocked_above hn gs _ c hc rfl ho
    exact ⟨groupN b, mem_crowdsN.2 ⟨b, hb, hp, rfl⟩, decide_eq_true ((sub_group hn hc).2 h1)⟩
theorem listed_is {n : Nat} {gs : List (List Int)} (hv : ValidF (n : Int) gs) {c : Nat} (hc : c < 2 ^ n) : (crowdsN n (openN gs)).any (fun g => decide (g = groupN c)) = openN gs c := by
  have hn : n ≤ 7 := by have := hv.1; omega
  have h7 := two_pow_le hn
  cases ho : openN gs c with
  | true =>
    rw [List.any_eq_true]
    exact ⟨groupN c, mem_crowdsN.2 ⟨c, hc, ho, rfl⟩, decide_eq_true rfl⟩
  | false =>
    rw [List.any_eq_false]
    intro g hg hx
    obtain ⟨b, hb, hp, rfl⟩ := mem_crowdsN.1 hg
    have h1 := congrArg bitsN (of_decide_eq_true hx)
    rw [bitsN_groupN (by omega), bitsN_groupN (by omega)] at h1
    subst h1
    rw [ho] at hp
    cases hp
theorem least_is {n : Nat} {gs : List (List Int)} (hv : ValidF (n : Int) gs) {c : Nat} (hc : c < 2 ^ n) : gs.any (fun g => decide (∀ x ∈ g, x ∈ groupN c)) = openN gs c := by
  have hn : n ≤ 7 := by have := hv.1; omega
  have key : ∀ g ∈ gs, (∀ x ∈ g, x ∈ groupN c) ↔ c &&& bitsN g = bitsN g := fun g hg => by
    have h1 := valid_groups hv g hg
    have h2 := sub_group (c := bitsN g) (d := c) hn (bitsN_lt h1.1)
    rwa [groupN_bitsN hn h1] at h2
  unfold openN
  rw [Bool.eq_iff_iff, List.any_eq_true, List.any_eq_true]
  constructor
  · rintro ⟨g, hg, hx⟩
    exact ⟨g, hg, decide_eq_true ((key g hg).1 (of_decide_eq_true hx))⟩
  · rintro ⟨g, hg, hx⟩
    exact ⟨g, hg, decide_eq_true ((key g hg).2 (of_decide_eq_true hx))⟩

/-! ### the loops -/
theorem any_step {α : Type} (p : α → Bool) (d : α) (l : List α) {i : Nat} (hi : i < l.length) : (l.take (i + 1)).any p = ((l.take i).any p || p (l.getD i d)) := by
  rw [List.take_succ_eq_append_getElem hi, List.any_append]
  simp [List.getD, hi]
theorem next_is {i : Nat} (h : i < 9223372036854775807) : wrap64 ((i : Int) + 1) = ((i + 1 : Nat) : Int) := by rw [wrap_id (by omega) (by omega)]; omega

theorem least_loop (cd : List Int) (c : Nat) (y : Bool) (bl al : List (List Int)) (n : Int) (gs : List (List Int)) (hl : gs.length ≤ 9223372036854775806) (hgl : ∀ g ∈ gs, g.length ≤ 9223372036854775806) (r : Bool)
    (hend : Ev (fun k => laws_FnOpens.l1 k cd (groupN c) y bl al (gs.any fun g => decide (∀ x ∈ g, x ∈ groupN c)) false 0 n gs) r) :
    ∀ (d i : Nat), i ≤ gs.length → gs.length - i = d → Ev (fun k => laws_FnOpens.l0 k cd (groupN c) y bl al ((gs.take i).any fun g => decide (∀ x ∈ g, x ∈ groupN c)) (i : Int) n gs) r := by
  intro d
  induction d with
  | zero =>
    intro i hi hd
    obtain rfl : i = gs.length := by omega
    rw [List.take_length]
    refine Ev.step (fun k => ?_) hend
    simp only [laws_FnOpens.l0]
    rw [if_neg (by omega)]
  | succ d ih =>
    intro i hi hd
    have hlt : i < gs.length := by omega
    have h1 := ih (i + 1) (by omega) (by omega)
    have hw := next_is (i := i) (by omega)
    rw [any_step _ [] gs hlt] at h1
    cases hb : (gs.take i).any fun g => decide (∀ x ∈ g, x ∈ groupN c) with
    | true =>
      rw [hb, Bool.true_or] at h1
      refine Ev.step (fun k => ?_) h1
      simp only [laws_FnOpens.l0]
      rw [if_pos (by omega), if_pos trivial, hw]
    | false =>
      rw [hb, Bool.false_or] at h1
      refine Ev.step (f := fun k => (laws_a2Inside.f k (gs.getD i []) (groupN c)).bind fun t => laws_FnOpens.l0 k cd (groupN c) y bl al t ((i + 1 : Nat) : Int) n gs) (fun k => ?_) (Ev.bind (inside_is _ _ (by rw [getDg hlt]; exact hgl _ (List.getElem_mem _)) (by have := group_len c; omega)) h1)
      simp only [laws_FnOpens.l0]
      rw [if_pos (by omega), if_neg (by simp), if_pos (by omega), rdL, hw]
theorem within_loop (cd : List Int) (c : Nat) (y : Bool) (al : List (List Int)) (t : Bool) (n : Nat) (gs bl : List (List Int)) (hv : ValidF (n : Int) gs) (hbl : bl.length ≤ 9223372036854775806) (hb : ∀ g ∈ bl, ∃ b, b < 2 ^ n ∧ openN gs b = false ∧ groupN b = g) (r : Bool)
    (hend : Ev (fun k => laws_FnOpens.l2 k cd (groupN c) y al t (bl.any fun g => decide (∀ x ∈ groupN c, x ∈ g)) false 0 (n : Int) gs) r) :
    ∀ (d i : Nat), i ≤ bl.length → bl.length - i = d → Ev (fun k => laws_FnOpens.l1 k cd (groupN c) y bl al t ((bl.take i).any fun g => decide (∀ x ∈ groupN c, x ∈ g)) (i : Int) (n : Int) gs) r := by
  intro d
  induction d with
  | zero =>
    intro i hi hd
    obtain rfl : i = bl.length := by omega
    rw [List.take_length]
    refine Ev.step (fun k => ?_) hend
    simp only [laws_FnOpens.l1]
    rw [if_neg (by omega)]
  | succ d ih =>
    intro i hi hd
    have hlt : i < bl.length := by omega
    have h1 := ih (i + 1) (by omega) (by omega)
    have hw := next_is (i := i) (by omega)
    rw [any_step _ [] bl hlt] at h1
    obtain ⟨b, hb2, hbo, hbe⟩ := hb (bl.getD i []) (by rw [getDg hlt]; exact List.getElem_mem _)
    have hmay := may_is hv hb2
    rw [hbe, hbo] at hmay
    refine Ev.step (f := fun k => (impl_MayOpen.f k (n : Int) gs (bl.getD i [])).bind fun bt237 => (if bt237.2 = 0 then (if bt237.1 = true then (some false) else (if ((bl.take i).any fun g => decide (∀ x ∈ groupN c, x ∈ g)) = true then (laws_FnOpens.l1 k cd (groupN c) y bl al t true ((i + 1 : Nat) : Int) (n : Int) gs) else ((laws_a2Inside.f k (groupN c) (bl.getD i [])).bind fun t240 => (laws_FnOpens.l1 k cd (groupN c) y bl al t t240 ((i + 1 : Nat) : Int) (n : Int) gs)))) else (some false))) (fun k => ?_) (Ev.bind hmay ?_)
    · simp only [laws_FnOpens.l1]
      rw [if_pos (by omega), if_pos (by omega), rdL, hw]
    · simp only [if_true, Bool.false_eq_true, if_false]
      cases hq : (bl.take i).any fun g => decide (∀ x ∈ groupN c, x ∈ g) with
      | true =>
        rw [hq, Bool.true_or] at h1
        simp only [if_true]
        exact h1
      | false =>
        rw [hq, Bool.false_or] at h1
        simp only [Bool.false_eq_true, if_false]
        exact Ev.bind (inside_is _ _ (by have := group_len c; omega) (by rw [← hbe]; have := group_len b; omega)) h1
theorem listed_loop (cd : List Int) (c : Nat) (y t u : Bool) (n : Int) (gs al : List (List Int)) (hal : al.length ≤ 9223372036854775806) (hgl : ∀ g ∈ al, g.length ≤ 9223372036854775806) (r : Bool)
    (hend : ∀ k, laws_FnOpens.l2 (k + 1) cd (groupN c) y al t u (al.any fun g => decide (g = groupN c)) (al.length : Int) n gs = laws_FnOpens.j4 k cd (groupN c) y false n gs) (hj : Ev (fun k => laws_FnOpens.j4 k cd (groupN c) y false n gs) r) :
    ∀ (d i : Nat), i ≤ al.length → al.length - i = d → Ev (fun k => laws_FnOpens.l2 k cd (groupN c) y al t u ((al.take i).any fun g => decide (g = groupN c)) (i : Int) n gs) r := by
  intro d
  induction d with
  | zero =>
    intro i hi hd
    obtain rfl : i = al.length := by omega
    rw [List.take_length]
    exact Ev.step hend hj
  | succ d ih =>
    intro i hi hd
    have hlt : i < al.length := by omega
    have h1 := ih (i + 1) (by omega) (by omega)
    have hw := next_is (i := i) (by omega)
    rw [any_step _ [] al hlt] at h1
    cases hb : (al.take i).any fun g => decide (g = groupN c) with
    | true =>
      rw [hb, Bool.true_or] at h1
      refine Ev.step (fun k => ?_) h1
      simp only [laws_FnOpens.l2]
      rw [if_pos (by omega), if_pos trivial, hw]
    | false =>
      rw [hb, Bool.false_or] at h1
      refine Ev.step (f := fun k => (laws_a2Same.f k (al.getD i []) (groupN c)).bind fun t2 => laws_FnOpens.l2 k cd (groupN c) y al t u t2 ((i + 1 : Nat) : Int) n gs) (fun k => ?_) (Ev.bind (asame_is _ _ (by rw [getDg hlt]; exact Nat.le_succ_of_le (hgl _ (List.getElem_mem _)))) h1)
      simp only [laws_FnOpens.l2]
      rw [if_pos (by omega), if_neg (by simp), if_pos (by omega), rdL, hw]

theorem crowds_lens {n : Nat} (hn : n ≤ 7) (p : Nat → Bool) : (crowdsN n p).length ≤ 128 ∧ ∀ g ∈ crowdsN n p, g.length ≤ 7 := by
  constructor
  · unfold crowdsN
    rw [List.length_mergeSort]
    exact Go.Proofs.Ytmanloolbpmgiaa.Crowds.crowds_len n p hn
  · intro g hg
    obtain ⟨c, _, _, rfl⟩ := mem_crowdsN.1 hg
    exact group_len c

/-! ### one holder more -/
theorem wide_same {n c h : Nat} (hc : c < 2 ^ n) (hh : h < n) (hn : n ≤ 7) : restL (groupN (restL ((h : Int) :: groupN c) n)) n = c ||| 1 <<< h := by
  apply Nat.eq_of_testBit_eq
  intro j
  rw [restL_bit, Nat.testBit_or, Nat.one_shiftLeft, Nat.testBit_two_pow]
  by_cases hj : j < n
  · rw [decide_eq_true hj, Bool.true_and, mem_group (by omega), restL_bit, decide_eq_true hj, Bool.true_and]
    have h1 : decide ((j : Int) ∈ (h : Int) :: groupN c) = (decide (h = j) || c.testBit j) := by
      rw [← mem_group (c := c) (show j < 7 by omega), Bool.eq_iff_iff]
      simp only [List.mem_cons, decide_eq_true_iff, Bool.or_eq_true]
      exact or_congr ⟨fun e => by omega, fun e => by omega⟩ Iff.rfl
    rw [h1, Bool.not_not, Bool.or_comm]
  · rw [decide_eq_false hj, Bool.false_and]
    have h1 : c.testBit j = false := Nat.testBit_lt_two_pow (Nat.lt_of_lt_of_le hc (Nat.pow_le_pow_right (by omega) (by omega)))
    rw [h1, decide_eq_false (by omega)]
    rfl
theorem last_is (cd : List Int) (hw0 : ∀ x ∈ cd, (Lit.int .u8 x).wf = true) {n : Nat} {gs : List (List Int)} (hv : ValidF (n : Int) gs) {c : Nat} (hc : c < 2 ^ n) : Ev (fun k => laws_FnOpens.j4 k cd (groupN c) (openN gs c) false (n : Int) gs) true := by
  have hn : n ≤ 7 := by have := hv.1; omega
  have hn1 : 1 ≤ n := by have := hv.1; omega
  obtain ⟨r, hr, hr0, hr1⟩ := at_is cd 0 (n : Int) hw0 (by omega) (by omega)
  obtain ⟨h, rfl⟩ : ∃ h : Nat, r = (h : Int) := ⟨r.toNat, by omega⟩
  have hh : h < n := by omega
  refine Ev.step (f := fun k => (laws_a2Has.f k (groupN c) (h : Int)).bind fun t244 => (if t244 = true then ((impl_MayOpen.f k (n : Int) gs (groupN c)).bind fun bt245 => (if bt245.2 = 0 then (if openN gs c = true then (some bt245.1) else (some true)) else (some false))) else ((laws_a2Others.f k ((h : Int) :: groupN c) (n : Int)).bind fun t253 => ((laws_a2Others.f k t253 (n : Int)).bind fun t256 => ((impl_MayOpen.f k (n : Int) gs t256).bind fun bt259 => (if bt259.2 = 0 then (if openN gs c = true then (some bt259.1) else (some true)) else (some false))))))) (fun k => ?_) (Ev.bind (has_group (c := c) (show h < 7 by omega)) ?_)
  · simp only [laws_FnOpens.j4, Bool.false_eq_true, if_false]
    rw [hr]
    simp only [Option.bind_some]
    rw [if_pos (show [(h : Int)].length + (groupN c).length < 17592186044416 by have := group_len c; simp; omega)]
    rfl
  · cases ht : c.testBit h with
    | true =>
      simp only [if_true]
      refine Ev.bind (may_is hv hc) ?_
      simp only [if_true]
      cases ho : openN gs c with
      | true => simp only [if_true]; exact Ev.now _
      | false => simp only [Bool.false_eq_true, if_false]; exact Ev.now _
    | false =>
      simp only [Bool.false_eq_true, if_false]
      refine Ev.bind (others_of _ (by have := group_len c; simp; omega) n hn) ?_
      refine Ev.bind (others_of _ (by have := group_len (restL ((h : Int) :: groupN c) n); omega) n hn) ?_
      rw [wide_same hc hh hn]
      refine Ev.bind (may_is hv (add_lt hc hh)) ?_
      simp only [if_true]
      cases ho : openN gs c with
      | true =>
        simp only [if_true]
        rw [open_mono hv c _ hc (add_lt hc hh) add_sub ho]
        exact Ev.now _
      | false => simp only [Bool.false_eq_true, if_false]; exact Ev.now _

theorem FnOpens : laws_FnOpens.Pure := by
  intro l0 l1 _ _ hw0 _ _ hw1
  refine Ev.rounds (g := fun k => laws_FnOpens.f k l0 l1) ?_
  unfold laws_FnOpens.f
  rw [long_is]
  simp only [Option.bind_some]
  by_cases hlong : l0.length > 3000 ∨ l1.length > 3000
  · simp only [decide_eq_true hlong, if_true]; exact Ev.now true
  · simp only [decide_eq_false hlong, Bool.false_eq_true, if_false]
    obtain ⟨nI, gs, hf, n1, n5, hv⟩ := famF_ok l0 (bytes_of hw0)
    have hA : spec_A2Family.f l0 = some (nI, gs) := hf
    rw [hA]
    simp only [Option.bind_some]
    obtain ⟨n, rfl⟩ : ∃ n : Nat, nI = (n : Int) := ⟨nI.toNat, by omega⟩
    have hn : n ≤ 7 := by omega
    obtain ⟨c, hc, hG⟩ := group_drawn l1 (bytes_of hw1) n hn
    have hB : impl_GreatestBlocked.f (n : Int) gs = some (crowdsN n (blockedP n gs), 0) := by
      show some (BlockedF _ _) = _
      unfold BlockedF
      rw [if_pos hv, Int.toNat_natCast]
    have hO : impl_OpeningGroups.f (n : Int) gs = some (crowdsN n (openN gs), 0) := by
      show some (OpeningF _ _) = _
      unfold OpeningF
      rw [if_pos hv, Int.toNat_natCast]
    refine Ev.bind hG ?_
    refine Ev.bind (may_is hv hc) ?_
    rw [hB, hO]
    simp only [Option.bind_some, if_true, bne_self_eq_false]
    have hlens := valid_len hv
    have hgl := fun g hg => len7 hn (valid_groups hv g hg)
    have hbl := crowds_lens hn (blockedP n gs)
    have hal := crowds_lens hn (openN gs)
    have hlast := last_is l0 hw0 hv hc
    have h2 := listed_loop l0 c (openN gs c) (openN gs c) (!openN gs c) (n : Int) gs (crowdsN n (openN gs)) (by omega) (fun g hg => by have := hal.2 g hg; omega) true (fun k => by
      simp only [laws_FnOpens.l2]
      rw [if_neg (by omega), listed_is hv hc, if_neg (by simp), if_neg (by simp)]
      simp) hlast _ 0 (Nat.zero_le _) rfl
    have h1 := within_loop l0 c (openN gs c) (crowdsN n (openN gs)) (openN gs c) n gs (crowdsN n (blockedP n gs)) hv (by omega) (fun g hg => by
      obtain ⟨b, hb, hp, e⟩ := mem_crowdsN.1 hg
      refine ⟨b, hb, ?_, e⟩
      unfold blockedP at hp
      cases ho : openN gs b with
      | false => rfl
      | true => rw [ho] at hp; cases hp) true (by rw [within_is' hv hc]; exact h2) _ 0 (Nat.zero_le _) rfl
    have h0 := least_loop l0 c (openN gs c) (crowdsN n (blockedP n gs)) (crowdsN n (openN gs)) (n : Int) gs (by omega) (fun g hg => by have := hgl g hg; omega) true (by rw [least_is hv hc]; exact h1) _ 0 (Nat.zero_le _) rfl
    refine Ev.step (fun k => ?_) h0
    simp only [laws_FnOpens.j0, Bool.false_eq_true, if_false]
    rfl

end Go.Proofs.Ytmanloolbpmgiaa.Pure
