/- The plain law of FnWorth: what the printed functions compute answers true. No program in sight. -/
import Derived.Test.YtmanloolbpmgiaaGx10
import Derived.Test.YtmanloolbpmgiaaTOpens
import Derived.Test.YtmanloolbpmgiaaTHas0
import Derived.Test.YtmanloolbpmgiaaWorthLaw
import Derived.Test.YtmanloolbpmgiaaOpening
namespace Go.Proofs.Ytmanloolbpmgiaa.Pure
open Go.RowKit Go.Proofs.YtmanloolbpmgiaaW.PrintWords Go.Proofs.YtmanloolbpmgiaaW.PrintMore Go.Proofs.Ytmanloolbpmgiaa.G Go.Proofs.Ytmanloolbpmgiaa.Fam Go.Proofs.Ytmanloolbpmgiaa.Loops Go.Proofs.Ytmanloolbpmgiaa.Bits Go.Proofs.Ytmanloolbpmgiaa.Valid Go.Proofs.Ytmanloolbpmgiaa.FamLaw Go.Proofs.Ytmanloolbpmgiaa.Opens Go.Proofs.Ytmanloolbpmgiaa.Ops Go.Proofs.Ytmanloolbpmgiaa.Opening Go.Proofs.Ytmanloolbpmgiaa.TArg Go.Proofs.Ytmanloolbpmgiaa.Some Go.Proofs.Ytmanloolbpmgiaa.TMay Go.Proofs.Ytmanloolbpmgiaa.THas Go.Proofs.Ytmanloolbpmgiaa.WorthLaw
set_option linter.unusedVariables false
set_option maxRecDepth 100000

theorem size_all : ∀ c : Fin 128, impl_crowd_size.f ((c.val : Nat) : Int) = some ((sizeN c.val : Nat) : Int) := by decide +kernel
theorem exch_all : ∀ c : Fin 128, ∀ a : Fin 7, ∀ b : Fin 7, impl_crowd_exchanged.f ((c.val : Nat) : Int) ((a.val : Nat) : Int) ((b.val : Nat) : Int) = some ((exchN c.val a.val b.val : Nat) : Int) := by decide +kernel
theorem next_u {c : Nat} (hc : c < 128) : IntKind.u64.wrap ((c : Int) + 1) = ((c + 1 : Nat) : Int) := by rw [IntKind.wrap_u64]; omega
theorem next_is {i : Nat} (h : i < 9223372036854775807) : wrap64 ((i : Int) + 1) = ((i + 1 : Nat) : Int) := by rw [wrap_id (by omega) (by omega)]; omega

/-! ### groups by size -/
theorem count_loop (n : Nat) (hn : n ≤ 7) (gs : List (List Int)) (hg : Smalls gs) : ∀ (d c : Nat) (L : List Int), c ≤ 2 ^ n → 2 ^ n - c = d → L.length = n + 1 → (∀ j, j ≤ n → L.getD j 0 = (cnt (bySize gs j) c : Int)) → L.sum = (cnt (openN gs) c : Int) →
    ∃ R, Ev (fun k => impl_CountBySize.l0 k L (c : Int) (n : Int) gs) (R, 0) ∧ R.length = n + 1 ∧ (∀ j, j ≤ n → R.getD j 0 = (cnt (bySize gs j) (2 ^ n) : Int)) ∧ R.sum = (cnt (openN gs) (2 ^ n) : Int) := by
  have h7 := two_pow_le hn
  have hpos := Nat.two_pow_pos n
  intro d
  induction d with
  | zero =>
    intro c L hc hd hl hj hs
    obtain rfl : c = 2 ^ n := by omega
    refine ⟨L, Ev.step (f := fun _ => some (L, 0)) (fun k => ?_) (Ev.now _), hl, hj, hs⟩
    simp only [impl_CountBySize.l0]
    rw [everybody_is hn]
    simp only [Option.bind_some]
    rw [if_neg (by omega)]
  | succ d ih =>
    intro c L hc hd hl hj hs
    have hlt : c < 2 ^ n := by omega
    have hw := next_u (c := c) (by omega)
    have hsz := size_le hn hlt
    cases ho : openN gs c with
    | false =>
      obtain ⟨R, h1, h2⟩ := ih (c + 1) L (by omega) (by omega) hl (fun j hjn => by
        rw [hj j hjn, cnt_succ, if_neg (by unfold bySize; rw [ho]; simp)]; rfl) (by rw [hs, cnt_succ, if_neg (by rw [ho]; simp)]; rfl)
      refine ⟨R, Ev.step (fun k => ?_) h1, h2⟩
      simp only [impl_CountBySize.l0]
      rw [everybody_is hn]
      simp only [Option.bind_some]
      rw [if_pos (by omega), opens_is hg (by omega), ho]
      simp only [Option.bind_some, Bool.false_eq_true, if_false]
      rw [hw]
    | true =>
      have hv : L.getD (sizeN c) 0 = (cnt (bySize gs (sizeN c)) c : Int) := hj _ hsz
      have hle := cnt_le (bySize gs (sizeN c)) c
      obtain ⟨R, h1, h2⟩ := ih (c + 1) (L.set (sizeN c) (L.getD (sizeN c) 0 + 1)) (by omega) (by omega) (by rw [List.length_set]; exact hl) (fun j hjn => by
        rw [getD_set _ _ _ _ (by omega), cnt_succ]
        by_cases e : sizeN c = j
        · subst e
          rw [if_pos rfl, hv, if_pos (by unfold bySize; rw [ho]; simp)]
          omega
        · rw [if_neg e, hj j hjn, if_neg (by unfold bySize; simp [e])]
          rfl) (by rw [sum_set _ _ (by omega), hs, cnt_succ, if_pos ho]; omega)
      refine ⟨R, Ev.step (fun k => ?_) h1, h2⟩
      simp only [impl_CountBySize.l0]
      rw [everybody_is hn]
      simp only [Option.bind_some]
      rw [if_pos (by omega), opens_is hg (by omega), ho, size_all ⟨c, by omega⟩]
      simp only [Option.bind_some, if_true]
      rw [if_pos (by omega), if_pos (by omega), rd_nat, wrap_id (i := L.getD (sizeN c) 0 + 1) (by rw [hv]; omega) (by rw [hv]; omega), hw, Int.toNat_natCast]
theorem count_is {n : Nat} {gs : List (List Int)} (hv : ValidF (n : Int) gs) : ∃ R, Ev (fun k => impl_CountBySize.f k (n : Int) gs) (R, 0) ∧ R.length = n + 1 ∧ (∀ j, j ≤ n → R.getD j 0 = (cnt (bySize gs j) (2 ^ n) : Int)) ∧ R.sum = (cnt (openN gs) (2 ^ n) : Int) := by
  have hn : n ≤ 7 := by have := hv.1; omega
  obtain ⟨R, h1, h2⟩ := count_loop n hn gs (smalls_of hv) (2 ^ n) 0 (List.replicate (n + 1) 0) (Nat.zero_le _) rfl (by rw [List.length_replicate]) (fun j hj => by
    rw [List.getD_eq_getElem?_getD, List.getElem?_replicate, if_pos (by omega)]; rfl) (by rw [List.sum_replicate_int]; simp [cnt])
  refine ⟨R, ?_, h2⟩
  unfold impl_CountBySize.f
  have hl := valid_lens hv
  refine Ev.bind (valid_is (n : Int) gs hl.1 hl.2) ?_
  rw [decide_eq_true hv]
  simp only [if_true]
  rw [next_is (by omega), Int.toNat_natCast]
  refine Ev.congr (fun k => ?_) h1
  rw [if_pos (by omega), if_pos (by omega)]
  rfl
theorem sum_loop (L : List Int) (hL : L.length ≤ 8) (hb : ∀ j, j < L.length → 0 ≤ L.getD j 0 ∧ L.getD j 0 ≤ 128) : ∀ (d i : Nat), i ≤ L.length → L.length - i = d → (0 ≤ (L.take i).sum ∧ (L.take i).sum ≤ 128 * i) → Ev (fun k => laws_a2Sum.l0 k L (L.take i).sum (i : Int)) L.sum := by
  intro d
  induction d with
  | zero =>
    intro i hi hd hs
    obtain rfl : i = L.length := by omega
    rw [List.take_length]
    refine Ev.step (f := fun _ => some L.sum) (fun k => ?_) (Ev.now _)
    simp only [laws_a2Sum.l0]
    rw [if_neg (by omega)]
  | succ d ih =>
    intro i hi hd hs
    have hlt : i < L.length := by omega
    have hx := hb i hlt
    have hnext : (L.take (i + 1)).sum = (L.take i).sum + L.getD i 0 := by
      rw [List.take_succ_eq_append_getElem hlt, List.sum_append]
      simp [List.getD, hlt]
    have h1 := ih (i + 1) (by omega) (by omega) (by rw [hnext]; omega)
    rw [hnext] at h1
    refine Ev.step (fun k => ?_) h1
    simp only [laws_a2Sum.l0]
    rw [if_pos (by omega), if_pos (by omega), rd_nat, wrap_id (i := (L.take i).sum + L.getD i 0) (by omega) (by omega), next_is (by omega)]
theorem sum_is (L : List Int) (hL : L.length ≤ 8) (hb : ∀ j, j < L.length → 0 ≤ L.getD j 0 ∧ L.getD j 0 ≤ 128) : Ev (fun k => laws_a2Sum.f k L) L.sum := by
  have := sum_loop L hL hb L.length 0 (Nat.zero_le _) rfl (by simp)
  exact this

/-! ### swings -/
def SwOk (n : Nat) (gs : List (List Int)) (R : List Int) : Prop := R.length = n ∧ ∀ j, j < n → R.getD j 0 = (swings n gs j : Int)
theorem swing_inner (n : Nat) (hn : n ≤ 7) (gs : List (List Int)) (hg : Smalls gs) (c : Nat) (hc : c < 2 ^ n)
    (hend : ∀ L : List Int, L.length = n → (∀ j, j < n → L.getD j 0 = (cnt (swing gs j) (c + 1) : Int)) → ∃ R, Ev (fun k => impl_SwingsOf.l0 k L ((c + 1 : Nat) : Int) (n : Int) gs) (R, 0) ∧ SwOk n gs R) :
    ∀ (d h : Nat) (L : List Int), h ≤ n → n - h = d → L.length = n → (∀ j, j < n → L.getD j 0 = (cnt (swing gs j) (if j < h then c + 1 else c) : Int)) → ∃ R, Ev (fun k => impl_SwingsOf.l1 k L (c : Int) (n : Int) (h : Int) (n : Int) gs) (R, 0) ∧ SwOk n gs R := by
  have h7 := two_pow_le hn
  intro d
  induction d with
  | zero =>
    intro h L hh hd hl hj
    obtain rfl : h = n := by omega
    obtain ⟨R, h1, h2⟩ := hend L hl (fun j hjn => by rw [hj j hjn, if_pos hjn])
    refine ⟨R, Ev.step (fun k => ?_) h1, h2⟩
    simp only [impl_SwingsOf.l1]
    rw [if_neg (by omega), next_u (by omega)]
  | succ d ih =>
    intro h L hh hd hl hj
    have hlt : h < n := by omega
    have hw := next_is (i := h) (by omega)
    have hv : L.getD h 0 = (cnt (swing gs h) c : Int) := by rw [hj h hlt, if_neg (by omega)]
    have hle := cnt_le (swing gs h) c
    have hcl : c ||| 1 <<< h < 128 := or_lt (by omega) (by omega)
    have same : swing gs h c = false → ∃ R, Ev (fun k => impl_SwingsOf.l1 k L (c : Int) (n : Int) ((h + 1 : Nat) : Int) (n : Int) gs) (R, 0) ∧ SwOk n gs R := fun hs =>
      ih (h + 1) L (by omega) (by omega) hl (fun j hjn => by
        rw [hj j hjn]
        by_cases e : j = h
        · subst e
          rw [if_neg (by omega), if_pos (by omega), cnt_succ, if_neg (by rw [hs]; simp)]
          rfl
        · have : (j < h) ↔ (j < h + 1) := by omega
          simp only [this])
    cases ht : c.testBit h with
    | true =>
      obtain ⟨R, h1, h2⟩ := same (by unfold swing; rw [ht]; rfl)
      refine ⟨R, Ev.step (fun k => ?_) h1, h2⟩
      simp only [impl_SwingsOf.l1]
      rw [if_pos (by omega), Bits.has_is (by omega) (by omega), ht]
      simp only [Option.bind_some, if_true]
      rw [hw]
    | false =>
      cases ho : openN gs c with
      | true =>
        obtain ⟨R, h1, h2⟩ := same (by unfold swing; rw [ho]; simp)
        refine ⟨R, Ev.step (fun k => ?_) h1, h2⟩
        simp only [impl_SwingsOf.l1]
        rw [if_pos (by omega), Bits.has_is (by omega) (by omega), ht]
        simp only [Option.bind_some, Bool.false_eq_true, if_false]
        rw [opens_is hg (by omega), ho]
        simp only [Option.bind_some, if_true]
        rw [hw]
      | false =>
        cases hq : openN gs (c ||| 1 <<< h) with
        | false =>
          obtain ⟨R, h1, h2⟩ := same (by unfold swing; rw [hq]; simp)
          refine ⟨R, Ev.step (fun k => ?_) h1, h2⟩
          simp only [impl_SwingsOf.l1]
          rw [if_pos (by omega), Bits.has_is (by omega) (by omega), ht]
          simp only [Option.bind_some, Bool.false_eq_true, if_false]
          rw [opens_is hg (by omega), ho]
          simp only [Option.bind_some, Bool.false_eq_true, if_false]
          rw [if_pos (by omega), or_is (by omega) (by omega), opens_is hg hcl, hq]
          simp only [Option.bind_some, Bool.false_eq_true, if_false]
          rw [hw]
        | true =>
          have hs : swing gs h c = true := by unfold swing; rw [ht, ho, hq]; rfl
          obtain ⟨R, h1, h2⟩ := ih (h + 1) (L.set h (L.getD h 0 + 1)) (by omega) (by omega) (by rw [List.length_set]; exact hl) (fun j hjn => by
            rw [getD_set _ _ _ _ (by omega)]
            by_cases e : h = j
            · subst e
              rw [if_pos rfl, if_pos (by omega), hv, cnt_succ, if_pos hs]
              omega
            · have : (j < h) ↔ (j < h + 1) := by omega
              rw [if_neg e, hj j hjn]
              simp only [this])
          refine ⟨R, Ev.step (fun k => ?_) h1, h2⟩
          simp only [impl_SwingsOf.l1]
          rw [if_pos (by omega), Bits.has_is (by omega) (by omega), ht]
          simp only [Option.bind_some, Bool.false_eq_true, if_false]
          rw [opens_is hg (by omega), ho]
          simp only [Option.bind_some, Bool.false_eq_true, if_false]
          rw [if_pos (by omega), or_is (by omega) (by omega), opens_is hg hcl, hq]
          simp only [Option.bind_some, if_true]
          rw [if_pos (by omega), rd_nat, wrap_id (i := L.getD h 0 + 1) (by rw [hv]; omega) (by rw [hv]; omega), hw, Int.toNat_natCast]
theorem swing_loop (n : Nat) (hn : n ≤ 7) (gs : List (List Int)) (hg : Smalls gs) : ∀ (d c : Nat) (L : List Int), c ≤ 2 ^ n → 2 ^ n - c = d → L.length = n → (∀ j, j < n → L.getD j 0 = (cnt (swing gs j) c : Int)) → ∃ R, Ev (fun k => impl_SwingsOf.l0 k L (c : Int) (n : Int) gs) (R, 0) ∧ SwOk n gs R := by
  have hpos := Nat.two_pow_pos n
  intro d
  induction d with
  | zero =>
    intro c L hc hd hl hj
    obtain rfl : c = 2 ^ n := by omega
    refine ⟨L, Ev.step (f := fun _ => some (L, 0)) (fun k => ?_) (Ev.now _), hl, hj⟩
    simp only [impl_SwingsOf.l0]
    rw [everybody_is hn]
    simp only [Option.bind_some]
    rw [if_neg (by omega)]
  | succ d ih =>
    intro c L hc hd hl hj
    obtain ⟨R, h1, h2⟩ := swing_inner n hn gs hg c (by omega) (fun L' hl' hj' => ih (c + 1) L' (by omega) (by omega) hl' hj') n 0 L (Nat.zero_le _) (by omega) hl (fun j hjn => by rw [hj j hjn, if_neg (by omega)])
    refine ⟨R, Ev.step (fun k => ?_) h1, h2⟩
    simp only [impl_SwingsOf.l0]
    rw [everybody_is hn]
    simp only [Option.bind_some]
    rw [if_pos (by omega)]
    rfl
theorem swings_is {n : Nat} {gs : List (List Int)} (hv : ValidF (n : Int) gs) : ∃ R, Ev (fun k => impl_SwingsOf.f k (n : Int) gs) (R, 0) ∧ SwOk n gs R := by
  have hn : n ≤ 7 := by have := hv.1; omega
  obtain ⟨R, h1, h2⟩ := swing_loop n hn gs (smalls_of hv) (2 ^ n) 0 (List.replicate n 0) (Nat.zero_le _) rfl (by rw [List.length_replicate]) (fun j hj => by
    rw [List.getD_eq_getElem?_getD, List.getElem?_replicate, if_pos (by omega)]; rfl)
  refine ⟨R, ?_, h2⟩
  unfold impl_SwingsOf.f
  have hl := valid_lens hv
  refine Ev.bind (valid_is (n : Int) gs hl.1 hl.2) ?_
  rw [decide_eq_true hv]
  simp only [if_true]
  rw [Int.toNat_natCast]
  refine Ev.congr (fun k => ?_) h1
  rw [if_pos (by omega), if_pos (by omega)]
  rfl

/-! ### needed holders, and those with a veto -/
theorem crowdOf_ev {n : Nat} {gs : List (List Int)} (hv : ValidF (n : Int) gs) {g : List Int} (hg : g ∈ gs) : Ev (fun k => impl_crowdOf.f k g) ((bitsN g : Nat) : Int) := by
  have hn : n ≤ 7 := by have := hv.1; omega
  have h1 := valid_groups hv g hg
  have h2 := len7 hn h1
  exact ⟨8, fun k hk => crowdOf_is g k (by omega) (small_of hn h1) (by omega)⟩
theorem needed_loop {n : Nat} {gs : List (List Int)} (hv : ValidF (n : Int) gs) : ∀ (d i b : Nat), i ≤ gs.length → gs.length - i = d → b < 128 → Ev (fun k => impl_Family_needed.l0 k (b : Int) gs (gs.length : Int) (i : Int)) (((gs.drop i).foldl (fun b g => b ||| bitsN g) b : Nat) : Int) := by
  have hn : n ≤ 7 := by have := hv.1; omega
  have hl := valid_len hv
  intro d
  induction d with
  | zero =>
    intro i b hi hd hb
    obtain rfl : i = gs.length := by omega
    rw [List.drop_length]
    refine Ev.step (f := fun _ => some ((b : Nat) : Int)) (fun k => ?_) (Ev.now _)
    simp only [impl_Family_needed.l0]
    rw [if_neg (by omega)]
  | succ d ih =>
    intro i b hi hd hb
    have hlt : i < gs.length := by omega
    have hg := List.getElem_mem hlt
    have hlt128 := bits128 (small_of hn (valid_groups hv _ hg))
    have h1 := ih (i + 1) (b ||| bitsN gs[i]) (by omega) (by omega) (Nat.or_lt_two_pow (n := 7) hb hlt128)
    rw [List.drop_eq_getElem_cons hlt, List.foldl_cons]
    refine Ev.step (f := fun k => (impl_crowdOf.f k gs[i]).bind fun t => impl_Family_needed.l0 k (Go.bits .or .u64 (b : Int) t) gs (gs.length : Int) ((i + 1 : Nat) : Int)) (fun k => ?_) (Ev.bind (crowdOf_ev hv hg) ?_)
    · simp only [impl_Family_needed.l0]
      rw [if_pos (by omega), if_pos (by omega), if_pos (by omega), rdL, getDg hlt, next_is (by omega)]
    · rw [u64_or_nat _ _ (by omega) (by omega)]
      exact h1
theorem veto_loop {n : Nat} {gs : List (List Int)} (hv : ValidF (n : Int) gs) : ∀ (d i b : Nat), i ≤ gs.length → gs.length - i = d → b < 128 → Ev (fun k => impl_VetoHolders.l0 k (b : Int) gs (gs.length : Int) (i : Int)) (groupN ((gs.drop i).foldl (fun b g => b &&& bitsN g) b), 0) := by
  have hn : n ≤ 7 := by have := hv.1; omega
  have hl := valid_len hv
  intro d
  induction d with
  | zero =>
    intro i b hi hd hb
    obtain rfl : i = gs.length := by omega
    rw [List.drop_length]
    refine Ev.step (f := fun k => (impl_crowd_group.f k (b : Int)).bind fun t296 => (some (t296, 0))) (fun k => ?_) (Ev.bind ⟨9, fun k hk => group_is hb hk⟩ (Ev.now _))
    simp only [impl_VetoHolders.l0]
    rw [if_neg (by omega)]
  | succ d ih =>
    intro i b hi hd hb
    have hlt : i < gs.length := by omega
    have hg := List.getElem_mem hlt
    have hlt128 := bits128 (small_of hn (valid_groups hv _ hg))
    have h1 := ih (i + 1) (b &&& bitsN gs[i]) (by omega) (by omega) (Nat.lt_of_le_of_lt Nat.and_le_left hb)
    rw [List.drop_eq_getElem_cons hlt, List.foldl_cons]
    refine Ev.step (f := fun k => (impl_crowdOf.f k gs[i]).bind fun t => impl_VetoHolders.l0 k (Go.bits .and .u64 (b : Int) t) gs (gs.length : Int) ((i + 1 : Nat) : Int)) (fun k => ?_) (Ev.bind (crowdOf_ev hv hg) ?_)
    · simp only [impl_VetoHolders.l0]
      rw [if_pos (by omega), if_pos (by omega), if_pos (by omega), rdL, getDg hlt, next_is (by omega)]
    · rw [u64_and_nat _ _ (by omega) (by omega)]
      exact h1
theorem bits_all {n : Nat} {gs : List (List Int)} (hv : ValidF (n : Int) gs) : ∀ g ∈ gs, bitsN g < 128 := fun g hg => bits128 (small_of (by have := hv.1; omega) (valid_groups hv g hg))
theorem needed_is {n : Nat} {gs : List (List Int)} (hv : ValidF (n : Int) gs) : Ev (fun k => impl_NeededHolders.f k (n : Int) gs) (groupN (neededN gs), 0) := by
  have hl := valid_lens hv
  unfold impl_NeededHolders.f
  refine Ev.bind (valid_is (n : Int) gs hl.1 hl.2) ?_
  rw [decide_eq_true hv]
  simp only [if_true]
  refine Ev.bind (a := ((neededN gs : Nat) : Int)) (needed_loop hv gs.length 0 0 (Nat.zero_le _) rfl (by omega)) ?_
  exact Ev.bind ⟨9, fun k hk => group_is (foldl_or_lt gs (bits_all hv) 0 (by omega)) hk⟩ (Ev.now _)
theorem veto_is {n : Nat} {gs : List (List Int)} (hv : ValidF (n : Int) gs) : Ev (fun k => impl_VetoHolders.f k (n : Int) gs) (groupN (vetoN n gs), 0) := by
  have hn : n ≤ 7 := by have := hv.1; omega
  have h7 := two_pow_le hn
  have hpos := Nat.two_pow_pos n
  have hl := valid_lens hv
  unfold impl_VetoHolders.f
  refine Ev.bind (valid_is (n : Int) gs hl.1 hl.2) ?_
  rw [decide_eq_true hv]
  simp only [if_true]
  rw [everybody_is hn]
  exact veto_loop hv gs.length 0 (2 ^ n - 1) (Nat.zero_le _) rfl (by omega)

/-! ### alike holders -/
theorem alike_loop (n : Nat) (hn : n ≤ 7) (gs : List (List Int)) (hg : Smalls gs) (a b : Nat) (ha : a < n) (hb : b < n) : ∀ (d c : Nat), c ≤ 2 ^ n → 2 ^ n - c = d → (∀ e, e < c → openN gs e = openN gs (exchN e a b)) →
    Ev (fun k => impl_Family_alike.l0 k (a : Int) (b : Int) (c : Int) (n : Int) gs) (alikeB n gs a b) := by
  have h7 := two_pow_le hn
  have hpos := Nat.two_pow_pos n
  intro d
  induction d with
  | zero =>
    intro c hc hd hall
    obtain rfl : c = 2 ^ n := by omega
    have : alikeB n gs a b = true := by
      unfold alikeB
      rw [List.all_eq_true]
      intro e he
      exact beq_iff_eq.2 (hall e (List.mem_range.1 he))
    rw [this]
    refine Ev.step (f := fun _ => some true) (fun k => by
      simp only [impl_Family_alike.l0]
      rw [everybody_is hn]
      simp only [Option.bind_some]
      rw [if_neg (by omega)]) (Ev.now true)
  | succ d ih =>
    intro c hc hd hall
    have hlt : c < 2 ^ n := by omega
    by_cases e : openN gs c = openN gs (exchN c a b)
    · refine Ev.step (fun k => ?_) (ih (c + 1) (by omega) (by omega) (fun x hx => by
        rcases Nat.lt_succ_iff_lt_or_eq.1 hx with h | h
        · exact hall x h
        · subst h; exact e))
      simp only [impl_Family_alike.l0]
      rw [everybody_is hn]
      simp only [Option.bind_some]
      rw [if_pos (by omega), opens_is hg (by omega), exch_all ⟨c, by omega⟩ ⟨a, by omega⟩ ⟨b, by omega⟩]
      simp only [Option.bind_some]
      rw [opens_is hg (by have := exch_lt hlt ha hb; omega)]
      simp only [Option.bind_some]
      rw [if_neg (by rw [e]; simp), next_u (by omega)]
    · have : alikeB n gs a b = false := by
        unfold alikeB
        rw [List.all_eq_false]
        exact ⟨c, List.mem_range.2 hlt, fun h => e (beq_iff_eq.1 h)⟩
      rw [this]
      refine Ev.step (f := fun _ => some false) (fun k => ?_) (Ev.now _)
      simp only [impl_Family_alike.l0]
      rw [everybody_is hn]
      simp only [Option.bind_some]
      rw [if_pos (by omega), opens_is hg (by omega), exch_all ⟨c, by omega⟩ ⟨a, by omega⟩ ⟨b, by omega⟩]
      simp only [Option.bind_some]
      rw [opens_is hg (by have := exch_lt hlt ha hb; omega)]
      simp only [Option.bind_some]
      rw [if_pos (by rw [bne_iff_ne]; exact e)]
theorem alike_is (n : Nat) (hn : n ≤ 7) (gs : List (List Int)) (hg : Smalls gs) (a b : Nat) (ha : a < n) (hb : b < n) : Ev (fun k => impl_Family_alike.f k (n : Int) gs (a : Int) (b : Int)) (alikeB n gs a b) :=
  alike_loop n hn gs hg a b ha hb _ 0 (Nat.zero_le _) rfl (fun e he => absurd he (Nat.not_lt_zero _))
/-- Holders with the same number swing as often. -/
def AlOk (m n : Nat) (gs : List (List Int)) (R : List Int) : Prop := R.length = m ∧ ∀ i j, i < m → j < m → R.getD i 0 = R.getD j 0 → swings n gs i = swings n gs j
theorem getD_snoc (L : List Int) (x : Int) (i : Nat) : (L ++ [x]).getD i 0 = if i < L.length then L.getD i 0 else if i = L.length then x else 0 := by
  simp only [List.getD_eq_getElem?_getD, List.getElem?_append]
  by_cases h : i < L.length
  · rw [if_pos h, if_pos h]
  · rw [if_neg h, if_neg h]
    by_cases e : i = L.length
    · subst e; simp
    · rw [if_neg e, List.getElem?_eq_none (by simp; omega)]
      rfl
theorem alok_snoc {h n : Nat} {gs : List (List Int)} {L : List Int} (hl : AlOk h n gs L) (x : Int) (hx : ∀ i, i < h → L.getD i 0 = x → swings n gs i = swings n gs h) : AlOk (h + 1) n gs (L ++ [x]) := by
  obtain ⟨h1, h2⟩ := hl
  refine ⟨by simp [h1], ?_⟩
  have val : ∀ i, i < h + 1 → (L ++ [x]).getD i 0 = if i < h then L.getD i 0 else x := fun i hi => by
    rw [getD_snoc, h1]
    by_cases e : i < h
    · rw [if_pos e, if_pos e]
    · rw [if_neg e, if_neg e, if_pos (by omega)]
  intro i j hi hj he
  rw [val i hi, val j hj] at he
  by_cases hi2 : i < h
  · rw [if_pos hi2] at he
    by_cases hj2 : j < h
    · rw [if_pos hj2] at he
      exact h2 i j hi2 hj2 he
    · rw [if_neg hj2] at he
      obtain rfl : j = h := by omega
      exact hx i hi2 he
  · rw [if_neg hi2] at he
    obtain rfl : i = h := by omega
    by_cases hj2 : j < i
    · rw [if_pos hj2] at he
      exact (hx j hj2 he.symm).symm
    · obtain rfl : j = i := by omega
      rfl
theorem alikes_inner (n : Nat) (hn : n ≤ 7) (gs : List (List Int)) (hg : Smalls gs) (h : Nat) (hh : h < n) (L : List Int) (next : Nat) (hL : AlOk h n gs L) (hnx : next ≤ h) (hb : ∀ i, i < h → 0 ≤ L.getD i 0 ∧ L.getD i 0 < next)
    (hend : ∀ (L' : List Int) (next' : Nat), AlOk (h + 1) n gs L' → next' ≤ h + 1 → (∀ i, i < h + 1 → 0 ≤ L'.getD i 0 ∧ L'.getD i 0 < next') → ∃ R, Ev (fun k => impl_AlikeHolders.l0 k L' (next' : Int) (n : Int) ((h + 1 : Nat) : Int) (n : Int) gs) (R, 0) ∧ AlOk n n gs R) :
    ∀ (d o : Nat), o ≤ h → h - o = d → ∃ R, Ev (fun k => impl_AlikeHolders.l1 k L (next : Int) (h : Int) (next : Int) (n : Int) (h : Int) (h : Int) (o : Int) (n : Int) gs) (R, 0) ∧ AlOk n n gs R := by
  have hlen := hL.1
  have bound : ∀ (x : Int) (m : Nat), (∀ i, i < h → L.getD i 0 < m) → 0 ≤ x → x < m → ∀ i, i < h + 1 → 0 ≤ (L ++ [x]).getD i 0 ∧ (L ++ [x]).getD i 0 < m := fun x m hm h0 h1 i hi => by
    rw [getD_snoc, hlen]
    by_cases e : i < h
    · rw [if_pos e]; exact ⟨(hb i e).1, hm i e⟩
    · rw [if_neg e, if_pos (by omega)]; exact ⟨h0, h1⟩
  intro d
  induction d with
  | zero =>
    intro o ho hd
    obtain rfl : o = h := by omega
    obtain ⟨R, h1, h2⟩ := hend (L ++ [(next : Int)]) (next + 1) (alok_snoc hL _ (fun i hi he => by have := (hb i hi).2; omega)) (by omega) (bound _ _ (fun i hi => by have := (hb i hi).2; omega) (by omega) (by omega))
    refine ⟨R, Ev.step (fun k => ?_) h1, h2⟩
    simp only [impl_AlikeHolders.l1]
    rw [if_neg (by omega), if_pos trivial, if_pos (by omega), next_is (by omega), next_is (by omega)]
  | succ d ih =>
    intro o ho hd
    have hlt : o < h := by omega
    have hE := alike_is n hn gs hg o h (by omega) hh
    have hx := hb o hlt
    have step : ∀ k, impl_AlikeHolders.l1 (k + 1) L (next : Int) (h : Int) (next : Int) (n : Int) (h : Int) (h : Int) (o : Int) (n : Int) gs = (impl_Family_alike.f k (n : Int) gs (o : Int) (h : Int)).bind fun t => if t = true then impl_AlikeHolders.l0 k (L ++ [L.getD o 0]) (next : Int) (n : Int) ((h + 1 : Nat) : Int) (n : Int) gs else impl_AlikeHolders.l1 k L (next : Int) (h : Int) (next : Int) (n : Int) (h : Int) (h : Int) ((o + 1 : Nat) : Int) (n : Int) gs := fun k => by
      simp only [impl_AlikeHolders.l1]
      rw [if_pos (by omega)]
      congr 1
      funext t
      cases t with
      | false => simp only [Bool.false_eq_true, if_false]; rw [next_is (by omega)]
      | true =>
        simp only [if_true]
        rw [if_pos (by omega), if_pos (by omega), rd_nat, if_neg (by omega), if_pos (by omega), next_is (by omega)]
    cases hal : alikeB n gs o h with
    | true =>
      rw [hal] at hE
      have hsw := alike_swings hn (by omega) hh (by omega) hal
      obtain ⟨R, h1, h2⟩ := hend (L ++ [L.getD o 0]) next (alok_snoc hL _ (fun i hi he => by rw [← hsw]; exact hL.2 i o hi hlt he)) (by omega) (bound _ _ (fun i hi => (hb i hi).2) hx.1 hx.2)
      exact ⟨R, Ev.step step (Ev.bind hE (by simp only [if_true]; exact h1)), h2⟩
    | false =>
      rw [hal] at hE
      obtain ⟨R, h1, h2⟩ := ih (o + 1) (by omega) (by omega)
      exact ⟨R, Ev.step step (Ev.bind hE (by simp only [Bool.false_eq_true, if_false]; exact h1)), h2⟩
theorem alikes_loop (n : Nat) (hn : n ≤ 7) (gs : List (List Int)) (hg : Smalls gs) : ∀ (d h next : Nat) (L : List Int), h ≤ n → n - h = d → AlOk h n gs L → next ≤ h → (∀ i, i < h → 0 ≤ L.getD i 0 ∧ L.getD i 0 < next) →
    ∃ R, Ev (fun k => impl_AlikeHolders.l0 k L (next : Int) (n : Int) (h : Int) (n : Int) gs) (R, 0) ∧ AlOk n n gs R := by
  intro d
  induction d with
  | zero =>
    intro h next L hh hd hL hnx hb
    obtain rfl : h = n := by omega
    exact ⟨L, Ev.step (f := fun _ => some (L, 0)) (fun k => by simp only [impl_AlikeHolders.l0]; rw [if_neg (by omega)]) (Ev.now _), hL⟩
  | succ d ih =>
    intro h next L hh hd hL hnx hb
    obtain ⟨R, h1, h2⟩ := alikes_inner n hn gs hg h (by omega) L next hL hnx hb (fun L' next' h1 h2 h3 => ih (h + 1) next' L' (by omega) (by omega) h1 h2 h3) h 0 (Nat.zero_le _) (by omega)
    refine ⟨R, Ev.step (fun k => ?_) h1, h2⟩
    simp only [impl_AlikeHolders.l0]
    rw [if_pos (by omega)]
    rfl
theorem alikes_is {n : Nat} {gs : List (List Int)} (hv : ValidF (n : Int) gs) : ∃ R, Ev (fun k => impl_AlikeHolders.f k (n : Int) gs) (R, 0) ∧ AlOk n n gs R := by
  have hn : n ≤ 7 := by have := hv.1; omega
  have hl := valid_lens hv
  obtain ⟨R, h1, h2⟩ := alikes_loop n hn gs (smalls_of hv) n 0 0 [] (Nat.zero_le _) (by omega) ⟨rfl, fun i j hi _ _ => absurd hi (Nat.not_lt_zero _)⟩ (Nat.le_refl _) (fun i hi => absurd hi (Nat.not_lt_zero _))
  refine ⟨R, ?_, h2⟩
  unfold impl_AlikeHolders.f
  refine Ev.bind (valid_is (n : Int) gs hl.1 hl.2) ?_
  rw [decide_eq_true hv]
  simp only [if_true]
  exact h1

/-! ### the law -/
theorem all_step {α : Type} (p : α → Bool) (d : α) (l : List α) {i : Nat} (hi : i < l.length) : (l.take (i + 1)).all p = ((l.take i).all p && p (l.getD i d)) := by
  rw [List.take_succ_eq_append_getElem hi, List.all_append]
  simp [List.getD, hi]
theorem every_loop (al : List (List Int)) (sw ne ve ak : List Int) (n h : Nat) (hal : al.length ≤ 128) (hgl : ∀ g ∈ al, g.length ≤ 7) (r : Bool)
    (hend : Ev (fun k => (laws_a2Has.f k ve (h : Int)).bind fun t => (if ((al.all fun g => decide ((h : Int) ∈ g)) != t) = true then (some false) else (laws_FnWorth.l1 k al sw ne ve ak (n : Int) (wrap64 ((h : Int) + 1))))) r) :
    ∀ (d i : Nat), i ≤ al.length → al.length - i = d → Ev (fun k => laws_FnWorth.l3 k al sw ne ve ak (n : Int) (h : Int) ((al.take i).all fun g => decide ((h : Int) ∈ g)) (i : Int)) r := by
  intro d
  induction d with
  | zero =>
    intro i hi hd
    obtain rfl : i = al.length := by omega
    rw [List.take_length]
    refine Ev.step (fun k => ?_) hend
    simp only [laws_FnWorth.l3]
    rw [if_neg (by omega)]
  | succ d ih =>
    intro i hi hd
    have hlt : i < al.length := by omega
    have h1 := ih (i + 1) (by omega) (by omega)
    rw [all_step _ [] al hlt] at h1
    cases hb : (al.take i).all fun g => decide ((h : Int) ∈ g) with
    | false =>
      rw [hb, Bool.false_and] at h1
      refine Ev.step (fun k => ?_) h1
      simp only [laws_FnWorth.l3]
      rw [if_pos (by omega), if_neg (by simp), next_is (by omega)]
    | true =>
      rw [hb, Bool.true_and] at h1
      refine Ev.step (f := fun k => (laws_a2Has.f k (al.getD i []) (h : Int)).bind fun t => laws_FnWorth.l3 k al sw ne ve ak (n : Int) (h : Int) t ((i + 1 : Nat) : Int)) (fun k => ?_) (Ev.bind (THas.has_is _ _ (by rw [getDg hlt]; have := hgl _ (List.getElem_mem hlt); omega)) h1)
      simp only [laws_FnWorth.l3]
      rw [if_pos (by omega), if_pos trivial, if_pos (by omega), rdL, next_is (by omega)]
theorem pair_loop {n : Nat} (hn : n ≤ 7) {gs : List (List Int)} (al : List (List Int)) (sw ne ve ak : List Int) (hS : SwOk n gs sw) (hA : AlOk n n gs ak) (h : Nat) (hh : h < n) (r : Bool)
    (hend : Ev (fun k => laws_FnWorth.l3 k al sw ne ve ak (n : Int) (h : Int) true 0) r) :
    ∀ (d j : Nat), j ≤ h → h - j = d → Ev (fun k => laws_FnWorth.l2 k al sw ne ve ak (n : Int) (h : Int) (j : Int)) r := by
  have hsl := hS.1
  have hal := hA.1
  intro d
  induction d with
  | zero =>
    intro j hj hd
    obtain rfl : j = h := by omega
    refine Ev.step (fun k => ?_) hend
    simp only [laws_FnWorth.l2]
    rw [if_neg (by omega)]
  | succ d ih =>
    intro j hj hd
    have h1 := ih (j + 1) (by omega) (by omega)
    refine Ev.step (fun k => ?_) h1
    simp only [laws_FnWorth.l2]
    rw [if_pos (by omega), if_pos (by omega), if_pos (by omega), if_pos (by omega), if_pos (by omega), rd_nat, rd_nat, next_is (by omega)]
    by_cases e : ak.getD h 0 = ak.getD j 0
    · rw [if_pos e, if_pos (by omega), if_pos (by omega), rd_nat, rd_nat, hS.2 h hh, hS.2 j (by omega), hA.2 h j hh (by omega) e, if_pos rfl]
    · rw [if_neg e]
theorem holder_loop {n : Nat} {gs : List (List Int)} (hv : ValidF (n : Int) gs) (sw ak : List Int) (hS : SwOk n gs sw) (hA : AlOk n n gs ak) :
    ∀ (d h : Nat), h ≤ n → n - h = d → Ev (fun k => laws_FnWorth.l1 k (crowdsN n (openN gs)) sw (groupN (neededN gs)) (groupN (vetoN n gs)) ak (n : Int) (h : Int)) true := by
  have hn : n ≤ 7 := by have := hv.1; omega
  have hsl := hS.1
  have hl : (crowdsN n (openN gs)).length ≤ 128 := by
    unfold crowdsN
    rw [List.length_mergeSort]
    exact Go.Proofs.Ytmanloolbpmgiaa.Crowds.crowds_len n _ hn
  have hgl : ∀ g ∈ crowdsN n (openN gs), g.length ≤ 7 := fun g hg => by
    obtain ⟨c, _, _, rfl⟩ := mem_crowdsN.1 hg
    exact group_len c
  intro d
  induction d with
  | zero =>
    intro h hh hd
    obtain rfl : h = n := by omega
    refine Ev.step (f := fun _ => some true) (fun k => ?_) (Ev.now _)
    simp only [laws_FnWorth.l1]
    rw [if_neg (by omega)]
  | succ d ih =>
    intro h hh hd
    have hlt : h < n := by omega
    have h1 := ih (h + 1) (by omega) (by omega)
    have hve := has_group (c := vetoN n gs) (show h < 7 by omega)
    have hend : Ev (fun k => (laws_a2Has.f k (groupN (vetoN n gs)) (h : Int)).bind fun t => (if (((crowdsN n (openN gs)).all fun g => decide ((h : Int) ∈ g)) != t) = true then (some false) else (laws_FnWorth.l1 k (crowdsN n (openN gs)) sw (groupN (neededN gs)) (groupN (vetoN n gs)) ak (n : Int) (wrap64 ((h : Int) + 1))))) true := by
      refine Ev.bind hve ?_
      rw [veto_all hv hlt, bne_self_eq_false, next_is (by omega)]
      simp only [Bool.false_eq_true, if_false]
      exact h1
    have h3 := every_loop (crowdsN n (openN gs)) sw (groupN (neededN gs)) (groupN (vetoN n gs)) ak n h hl hgl true hend _ 0 (Nat.zero_le _) rfl
    have h2 := pair_loop hn (crowdsN n (openN gs)) sw (groupN (neededN gs)) (groupN (vetoN n gs)) ak hS hA h hlt true h3 _ 0 (Nat.zero_le _) rfl
    refine Ev.step (f := fun k => (laws_a2Has.f k (groupN (neededN gs)) (h : Int)).bind fun t => (if ((decide ((swings n gs h : Int) > 0)) != t) = true then (some false) else (laws_FnWorth.l2 k (crowdsN n (openN gs)) sw (groupN (neededN gs)) (groupN (vetoN n gs)) ak (n : Int) (h : Int) 0))) (fun k => ?_) (Ev.bind (has_group (c := neededN gs) (show h < 7 by omega)) ?_)
    · simp only [laws_FnWorth.l1]
      rw [if_pos (by omega), if_pos (by omega), if_pos (by omega), rd_nat, hS.2 h hlt]
    · rw [swing_needed hv hlt, bne_self_eq_false]
      simp only [Bool.false_eq_true, if_false]
      exact h2
theorem choose_all : ∀ n : Fin 6, ∀ k : Fin 6, k.val ≤ n.val → wrap64 (Int.tdiv (wrap64 (((chooseN n.val k.val : Nat) : Int) * (wrap64 (((n.val : Nat) : Int) - ((k.val : Nat) : Int))))) (wrap64 (((k.val : Nat) : Int) + 1))) = ((chooseN n.val (k.val + 1) : Nat) : Int) := by decide +kernel
theorem size_loop {n : Nat} (hn : n ≤ 5) (C D : List Int) (al : List (List Int)) (sw ne ve ak : List Int) (hC : C.length = n + 1) (hD : D.length = n + 1) (hadd : ∀ k, k ≤ n → C.getD k 0 + D.getD (n - k) 0 = (chooseN n k : Int)) (hb : ∀ k, k ≤ n → (chooseN n k : Int) ≤ 128)
    (hend : Ev (fun k => laws_FnWorth.l1 k al sw ne ve ak (n : Int) 0) true) :
    ∀ (d i : Nat), i ≤ n + 1 → n + 1 - i = d → Ev (fun k => laws_FnWorth.l0 k C al sw ne ve ak D (n : Int) (chooseN n i : Int) (i : Int)) true := by
  intro d
  induction d with
  | zero =>
    intro i hi hd
    obtain rfl : i = n + 1 := by omega
    refine Ev.step (fun k => ?_) hend
    simp only [laws_FnWorth.l0]
    rw [if_neg (by omega)]
  | succ d ih =>
    intro i hi hd
    have hin : i ≤ n := by omega
    have h1 := ih (i + 1) (by omega) (by omega)
    have hs : wrap64 ((n : Int) - (i : Int)) = ((n - i : Nat) : Int) := by rw [wrap_id (by omega) (by omega)]; omega
    have hch := choose_all ⟨n, by omega⟩ ⟨i, by omega⟩ hin
    simp only at hch
    rw [hs, next_is (by omega)] at hch
    have ha := hadd i hin
    have hbb := hb i hin
    refine Ev.step (fun k => ?_) h1
    simp only [laws_FnWorth.l0]
    rw [if_pos (by omega), if_pos (by omega), if_pos (by omega), hs, if_pos (by omega), if_pos (by omega), rd_nat, rd_nat, ha, wrap_id (i := ((chooseN n i : Nat) : Int)) (by omega) (by omega), if_pos rfl, next_is (by omega), if_neg (by omega), hch]
theorem choose_first : ∀ n : Fin 6, chooseN n.val 0 = 1 := by decide +kernel
theorem rest_sub {n : Nat} {c d : Nat} (hc : c < 2 ^ n) (hd : d < 2 ^ n) (h : d &&& c = c) : (2 ^ n - 1 - c) &&& (2 ^ n - 1 - d) = 2 ^ n - 1 - d := by
  have bit : ∀ x, x < 2 ^ n → ∀ i, (2 ^ n - 1 - x).testBit i = (decide (i < n) && !x.testBit i) := by
    intro x hx i
    have := Nat.testBit_two_pow_sub_succ hx i
    rwa [show 2 ^ n - (x + 1) = 2 ^ n - 1 - x by omega] at this
  apply Nat.eq_of_testBit_eq
  intro i
  rw [Nat.testBit_and, bit c hc, bit d hd]
  cases hci : c.testBit i with
  | false => cases decide (i < n) <;> simp
  | true =>
    have := congrArg (fun x => x.testBit i) h
    simp only [Nat.testBit_and, hci, Bool.and_true] at this
    rw [this]; simp
theorem dual_mono {n : Nat} {gs : List (List Int)} (h : ValidF (n : Int) gs) : Mono n (dualP n gs) := by
  have rest_lt : ∀ c, 2 ^ n - 1 - c < 2 ^ n := fun c => by have := Nat.two_pow_pos n; omega
  intro c d hc hd hs hp
  unfold dualP at *
  rw [Bool.not_eq_true'] at *
  cases hq : openN gs (2 ^ n - 1 - d) with
  | false => rfl
  | true =>
    have := open_mono h (2 ^ n - 1 - d) (2 ^ n - 1 - c) (rest_lt _) (rest_lt _) (rest_sub hc hd hs) hq
    rw [this] at hp; cases hp
theorem dual_is {n : Nat} {gs : List (List Int)} (h : ValidF (n : Int) gs) : impl_DualFamily.f (n : Int) gs = some ((n : Int), famN n (dualP n gs), 0) := by
  show some (DualF _ _) = _
  unfold DualF
  rw [if_pos h, Int.toNat_natCast]

theorem FnWorth : laws_FnWorth.Pure := by
  intro l0 l1 _ _ hw0 _ _ hw1
  refine Ev.rounds (g := fun k => laws_FnWorth.f k l0 l1) ?_
  unfold laws_FnWorth.f
  rw [long_is]
  simp only [Option.bind_some]
  by_cases hlong : l0.length > 3000 ∨ l1.length > 3000
  · simp only [decide_eq_true hlong, if_true]; exact Ev.now true
  · simp only [decide_eq_false hlong, Bool.false_eq_true, if_false]
    obtain ⟨nI, gs, hf, n1, n5, hv⟩ := famF_ok l0 (bytes_of hw0)
    have hA : spec_A2Family.f l0 = some (nI, gs) := hf
    rw [hA]
    simp only [Option.bind_some]
    obtain ⟨n, rfl⟩ : ∃ n : Nat, nI = (n : Int) := ⟨nI.toNat, by omega⟩
    have hn : n ≤ 7 := by omega
    have h7 := two_pow_le hn
    have hpos := Nat.two_pow_pos n
    have hdm := dual_mono hv
    have hvd : ValidF (n : Int) (famN n (dualP n gs)) := fam_valid hv hdm
    obtain ⟨C, hC, hC1, hC2, hC3⟩ := count_is hv
    obtain ⟨D, hD, hD1, hD2, hD3⟩ := count_is hvd
    obtain ⟨sw, hS, hS1⟩ := swings_is hv
    obtain ⟨ak, hK, hK1⟩ := alikes_is hv
    have hO : impl_OpeningGroups.f (n : Int) gs = some (crowdsN n (openN gs), 0) := by
      show some (OpeningF _ _) = _
      unfold OpeningF
      rw [if_pos hv, Int.toNat_natCast]
    have hchb : ∀ k, k ≤ n → (chooseN n k : Int) ≤ 128 := fun k _ => by
      have := cnt_le (fun c => decide (sizeN c = k)) (2 ^ n)
      have h2 : chooseN n k ≤ 2 ^ n := this
      omega
    have hadd : ∀ k, k ≤ n → C.getD k 0 + D.getD (n - k) 0 = (chooseN n k : Int) := fun k hk => by
      rw [hC2 k hk, hD2 (n - k) (by omega)]
      have := sizes_add hn (gs := gs) (ds := famN n (dualP n gs)) (fun c hc => by rw [openN_famN hn hdm hc]; rfl) hk
      omega
    have hend := size_loop (by omega) C D (crowdsN n (openN gs)) sw (groupN (neededN gs)) (groupN (vetoN n gs)) ak hC1 hD1 hadd hchb (holder_loop hv sw ak hS1 hK1 n 0 (Nat.zero_le _) (by omega)) (n + 1) 0 (Nat.zero_le _) rfl
    have hsum : Ev (fun k => laws_a2Sum.f k C) (cnt (openN gs) (2 ^ n) : Int) := by
      rw [← hC3]
      exact sum_is C (by omega) (fun j hj => by
        rw [hC2 j (by omega)]
        have := cnt_le (bySize gs j) (2 ^ n)
        omega)
    refine Ev.bind hC ?_
    rw [hO]
    simp only [Option.bind_some]
    refine Ev.bind hS ?_
    refine Ev.bind (needed_is hv) ?_
    refine Ev.bind (veto_is hv) ?_
    refine Ev.bind hK ?_
    rw [dual_is hv]
    simp only [Option.bind_some]
    refine Ev.bind hD ?_
    rw [next_is (by omega)]
    simp only [if_true]
    have e1 : (C.length : Int) = ((n + 1 : Nat) : Int) := by omega
    have e2 : (D.length : Int) = ((n + 1 : Nat) : Int) := by omega
    have e3 : (sw.length : Int) = (n : Int) := by have := hS1.1; omega
    have e4 : (ak.length : Int) = (n : Int) := by have := hK1.1; omega
    simp only [if_pos e1, if_pos e2, if_pos e3, if_pos e4]
    refine Ev.bind hsum ?_
    rw [all_sizes, bne_self_eq_false]
    refine Ev.step (fun k => ?_) hend
    simp only [laws_FnWorth.j0, Bool.false_eq_true, if_false]
    rw [show (chooseN n 0 : Int) = 1 by rw [choose_first ⟨n, by omega⟩]; rfl]
    rfl

end Go.Proofs.Ytmanloolbpmgiaa.Pure
