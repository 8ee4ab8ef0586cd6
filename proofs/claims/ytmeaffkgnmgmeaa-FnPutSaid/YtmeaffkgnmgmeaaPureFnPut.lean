/- The plain law of FnPut: what the printed functions compute answers true. No program in sight. -/
import Derived.Test.YtmeaffkgnmgmeaaGx8
import Derived.Test.YtmeaffkgnmgmeaaTWide
import Derived.Test.YtmeaffkgnmgmeaaTAt
import Derived.Test.YtmeaffkgnmgmeaaPut
namespace Go.Proofs.Ytmeaffkgnmgmeaa.Pure
open Go.RowKit Go.Proofs.YtmeaffkgnmgmeaaW.PrintWords Go.Proofs.YtmeaffkgnmgmeaaW.PrintMore Go.Proofs.Ytmeaffkgnmgmeaa.G Go.Proofs.Ytmeaffkgnmgmeaa.Fam Go.Proofs.Ytmeaffkgnmgmeaa.Loops Go.Proofs.Ytmeaffkgnmgmeaa.Valid Go.Proofs.Ytmeaffkgnmgmeaa.FamLaw Go.Proofs.Ytmeaffkgnmgmeaa.Ops Go.Proofs.Ytmeaffkgnmgmeaa.TArg Go.Proofs.Ytmeaffkgnmgmeaa.TSame Go.Proofs.Ytmeaffkgnmgmeaa.Ref Go.Proofs.Ytmeaffkgnmgmeaa.Some Go.Proofs.Ytmeaffkgnmgmeaa.TMay Go.Proofs.Ytmeaffkgnmgmeaa.Leave Go.Proofs.Ytmeaffkgnmgmeaa.Put Go.Proofs.Ytmeaffkgnmgmeaa.TWide
set_option linter.unusedVariables false
set_option maxRecDepth 100000

/-! ### a group, split -/
def outerL (a : Int) (g : List Int) : List Int := g.filter fun x => decide (x < a)
def innerL (a : Int) (g : List Int) : List Int := (g.filter fun x => !decide (x < a)).map fun x => x - a
theorem split_all : ∀ a : Fin 7, ∀ c : Fin 128, outerL ((a.val : Nat) : Int) (groupN c.val) = groupN (c.val % 2 ^ a.val) ∧ innerL ((a.val : Nat) : Int) (groupN c.val) = groupN (c.val / 2 ^ a.val) := by decide +kernel
theorem outer_snoc (a : Int) (g : List Int) (x : Int) : outerL a (g ++ [x]) = if x < a then outerL a g ++ [x] else outerL a g := by
  unfold outerL
  rw [List.filter_append]
  by_cases h : x < a <;> simp [h]
theorem inner_snoc (a : Int) (g : List Int) (x : Int) : innerL a (g ++ [x]) = if x < a then innerL a g else innerL a g ++ [x - a] := by
  unfold innerL
  rw [List.filter_append, List.map_append]
  by_cases h : x < a <;> simp [h]
theorem outer_len (a : Int) (g : List Int) : (outerL a g).length ≤ g.length := List.length_filter_le _ _
theorem inner_len (a : Int) (g : List Int) : (innerL a g).length ≤ g.length := by unfold innerL; rw [List.length_map]; exact List.length_filter_le _ _

theorem small7 {n : Nat} (h : n ≤ 7) : n < 17592186044416 := by omega
theorem take7 {g : List Int} (h : g.length ≤ 7) (i : Nat) : (g.take i).length ≤ 7 := by rw [List.length_take]; omega
theorem next7 {i : Nat} (h : i < 7) : wrap64 ((i : Int) + 1) = ((i + 1 : Nat) : Int) := by rw [wrap_id (by omega) (by omega)]; omega
theorem own7 {a : Nat} (h : a ≤ 6) : wrap64 ((a : Int) + 1 - 1) = (a : Int) := by rw [wrap_id (by omega) (by omega)]; omega
theorem back7 {a : Nat} (h : a ≤ 6) {x : Int} (h0 : 0 ≤ x) (h1 : x < 7) : wrap64 (wrap64 (x - ((a : Int) + 1)) + 1) = x - (a : Int) := by
  rw [wrap_id (i := x - ((a : Int) + 1)) (by omega) (by omega), wrap_id (by omega) (by omega)]; omega
theorem put_loop (a : Nat) (ha : a ≤ 6) (g : List Int) (hg : ∀ x ∈ g, 0 ≤ x ∧ x < 7) (hl : g.length ≤ 7) (h : Int) (gs : List (List Int)) (m : Int) (hs : List (List Int)) (p : Int) (ps : List (List Int)) (r : Bool)
    (hend : Ev (fun k => laws_FnPut.l0 k h g (outerL (a : Int) g) (innerL (a : Int) g) (g.length : Int) ((a : Int) + 1) gs m hs p ps) r) :
    ∀ (d i : Nat), i ≤ g.length → g.length - i = d → Ev (fun k => laws_FnPut.l0 k h g (outerL (a : Int) (g.take i)) (innerL (a : Int) (g.take i)) (i : Int) ((a : Int) + 1) gs m hs p ps) r := by
  intro d
  induction d with
  | zero =>
    intro i hi hd
    obtain rfl : i = g.length := by omega
    rw [List.take_length]
    exact hend
  | succ d ih =>
    intro i hi hd
    have hlt : i < g.length := by omega
    have hx := hg g[i] (List.getElem_mem hlt)
    have h1 := ih (i + 1) (by omega) (by omega)
    have e0 : (i : Int) < (g.length : Int) := Int.ofNat_lt.2 hlt
    have e1 : (0 : Int) ≤ (i : Int) := Int.natCast_nonneg _
    rw [List.take_succ_eq_append_getElem hlt, outer_snoc, inner_snoc] at h1
    have ho : (outerL (a : Int) (g.take i)).length < 17592186044416 := small7 (Nat.le_trans (outer_len (a : Int) (g.take i)) (take7 hl i))
    have hn : (innerL (a : Int) (g.take i)).length < 17592186044416 := small7 (Nat.le_trans (inner_len (a : Int) (g.take i)) (take7 hl i))
    have hrd : rd g (i : Int) = g[i] := by rw [rd_nat]; simp [List.getD, hlt]
    have hw := next7 (Nat.lt_of_lt_of_le hlt hl)
    have hwa := own7 ha
    clear hend ih
    by_cases hc : g[i] < (a : Int)
    · rw [if_pos hc, if_pos hc] at h1
      refine Ev.step (fun k => ?_) h1
      simp only [laws_FnPut.l0, if_pos e0, if_pos e1, hrd, hw, hwa, if_pos hc, if_pos ho]
    · rw [if_neg hc, if_neg hc] at h1
      have hx3 := back7 ha hx.1 hx.2
      refine Ev.step (fun k => ?_) h1
      simp only [laws_FnPut.l0, if_pos e0, if_pos e1, hrd, hw, hwa, if_neg hc, if_pos hn, hx3]

/-! ### the family that is put together is monotone -/
theorem mod_sub {c d a : Nat} (h : d &&& c = c) : (d % 2 ^ a) &&& (c % 2 ^ a) = c % 2 ^ a := by
  rw [← Nat.and_mod_two_pow, h]
theorem div_sub {c d a : Nat} (h : d &&& c = c) : (d / 2 ^ a) &&& (c / 2 ^ a) = c / 2 ^ a := by
  rw [← Nat.shiftRight_eq_div_pow, ← Nat.shiftRight_eq_div_pow, ← Nat.shiftRight_and_distrib, h]
theorem putD_lt {a m h c : Nat} (ha : a ≤ 6) (hh : h ≤ a) (gs hs : List (List Int)) : putD gs a h hs c < 2 ^ (a + 1) := by
  have hl := wide_lt ha (Nat.mod_lt c (Nat.two_pow_pos a)) hh
  unfold putD
  split
  · exact hl.2
  · exact hl.1
theorem put_mono {a m : Nat} {gs hs : List (List Int)} (ha : a ≤ 6) (hv : ValidF ((a + 1 : Nat) : Int) gs) (hv' : ValidF (m : Int) hs) {h : Nat} (hh : h ≤ a) : Mono (a + m) (putP gs a h hs) := by
  intro c d hc hd hsub hp
  have h6 := two6 ha
  have hpa := Nat.two_pow_pos a
  unfold putP at *
  have hcm := Nat.mod_lt c hpa
  have hdm := Nat.mod_lt d hpa
  have hw := wide_sub_all ⟨h, by omega⟩ ⟨c % 2 ^ a, by omega⟩ ⟨d % 2 ^ a, by omega⟩ (mod_sub hsub)
  have hdc : c / 2 ^ a < 2 ^ m := by rw [Nat.div_lt_iff_lt_mul hpa, ← Nat.pow_add, Nat.add_comm]; exact hc
  have hdd : d / 2 ^ a < 2 ^ m := by rw [Nat.div_lt_iff_lt_mul hpa, ← Nat.pow_add, Nat.add_comm]; exact hd
  have hmo := open_mono hv' _ _ hdc hdd (div_sub hsub)
  refine open_mono hv _ _ (putD_lt (m := m) ha hh gs hs) (putD_lt (m := m) ha hh gs hs) ?_ hp
  have hlc := wide_lt ha hcm hh
  have hld := wide_lt ha hdm hh
  unfold putD
  cases hqc : openN hs (c / 2 ^ a) with
  | true => rw [hmo hqc, if_pos rfl, if_pos rfl]; exact hw.2
  | false =>
    simp only [Bool.false_eq_true, if_false]
    split
    · apply Nat.eq_of_testBit_eq
      intro i
      have := congrArg (fun x => x.testBit i) hw.1
      simp only [Nat.testBit_and, Nat.testBit_or] at this ⊢
      revert this
      cases (wideN (d % 2 ^ a) h).testBit i <;> cases (wideN (c % 2 ^ a) h).testBit i <;> simp
    · exact hw.1

theorem FnPut : laws_FnPut.Pure := by
  intro l0 l1 _ _ hw0 _ _ hw1
  refine Ev.rounds (g := fun k => laws_FnPut.f k l0 l1) ?_
  unfold laws_FnPut.f
  rw [long_is]
  simp only [Option.bind_some]
  by_cases hlong : l0.length > 3000 ∨ l1.length > 3000
  · simp only [decide_eq_true hlong, if_true]; exact Ev.now true
  · simp only [decide_eq_false hlong, Bool.false_eq_true, if_false]
    obtain ⟨r0, e0, r00, r01⟩ := at_is l0 0 4 hw0 (by omega) (by omega)
    obtain ⟨a, rfl⟩ : ∃ a : Nat, r0 = (a : Int) := ⟨r0.toNat, by omega⟩
    obtain ⟨r1, e1, r10, r11⟩ := at_is l1 0 4 hw1 (by omega) (by omega)
    obtain ⟨m, hm⟩ : ∃ m : Nat, 1 + r1 = (m : Int) := ⟨(1 + r1).toNat, by omega⟩
    have hna : wrap64 (1 + (a : Int)) = ((a + 1 : Nat) : Int) := by rw [wrap_id (by omega) (by omega)]; omega
    have hnm : wrap64 (1 + r1) = (m : Int) := by rw [wrap_id (by omega) (by omega), hm]
    obtain ⟨gs, hf, hv⟩ := famOfF_ok l0 (bytes_of hw0) ((a + 1 : Nat) : Int) (by omega) (by omega)
    obtain ⟨hs, hg, hv'⟩ := famOfF_ok l1 (bytes_of hw1) (m : Int) (by omega) (by omega)
    have hA : spec_A2FamilyOf.f l0 ((a + 1 : Nat) : Int) = some (((a + 1 : Nat) : Int), gs) := hf
    have hB : spec_A2FamilyOf.f l1 (m : Int) = some ((m : Int), hs) := hg
    obtain ⟨r2, e2, r20, r21⟩ := at_is l0 1 ((a + 1 : Nat) : Int) hw0 (by omega) (by omega)
    obtain ⟨h, rfl⟩ : ∃ h : Nat, r2 = (h : Int) := ⟨r2.toNat, by omega⟩
    have ha : a ≤ 6 := by omega
    have hh : h ≤ a := by omega
    have ham : a + m ≤ 7 := by omega
    have hP : impl_PutFamily.f ((a + 1 : Nat) : Int) gs (h : Int) (m : Int) hs = some (((a + m : Nat) : Int), famN (a + m) (putP gs a h hs), 0) := by
      show PutF _ _ _ _ _ = _
      unfold PutF
      rw [if_pos ⟨hv, hv', ⟨by omega, by omega⟩, by omega⟩]
      rw [show ((a + 1 : Nat) : Int) - 1 = (a : Int) by omega, Int.toNat_natCast, Int.toNat_natCast, Int.toNat_natCast]
      rw [show (a : Int) + (m : Int) = ((a + m : Nat) : Int) by omega]
    have hvp : ValidF ((a + m : Nat) : Int) (famN (a + m) (putP gs a h hs)) := famN_valid (by omega) ham (put_mono ha hv hv' hh)
    rw [e0]
    simp only [Option.bind_some]
    rw [hna, hA]
    simp only [Option.bind_some]
    rw [e1]
    simp only [Option.bind_some]
    rw [hnm, hB]
    simp only [Option.bind_some]
    rw [e2]
    simp only [Option.bind_some]
    rw [hP]
    have hwn : wrap64 (wrap64 (((a + 1 : Nat) : Int) - 1) + (m : Int)) = ((a + m : Nat) : Int) := by
      rw [wrap_id (i := ((a + 1 : Nat) : Int) - 1) (by omega) (by omega), wrap_id (by omega) (by omega)]; omega
    simp only [Option.bind_some, if_true, hwn, bne_self_eq_false]
    obtain ⟨c, hc, hG⟩ := group_drawn l1 (bytes_of hw1) (a + m) ham
    have h7 := two_pow_le ham
    have hc7 : c < 128 := by omega
    have hpa := Nat.two_pow_pos a
    have hdc : c / 2 ^ a < 2 ^ m := by rw [Nat.div_lt_iff_lt_mul hpa, ← Nat.pow_add, Nat.add_comm]; exact hc
    have hcm := Nat.mod_lt c hpa
    have h6 := two6 ha
    have hsp := split_all ⟨a, by omega⟩ ⟨c, hc7⟩
    simp only at hsp
    have hgr := groupN_is (n := 7) (by omega) (show c < 2 ^ 7 by omega)
    refine Ev.step (f := fun k => (spec_A2Group.f k l1 ((a + m : Nat) : Int)).bind fun t291 => (laws_FnPut.l0 k (h : Int) t291 (([] : List Int)) (([] : List Int)) 0 ((a + 1 : Nat) : Int) gs (m : Int) hs ((a + m : Nat) : Int) (famN (a + m) (putP gs a h hs)))) (fun k => by simp only [laws_FnPut.j0, Bool.false_eq_true, if_false]) ?_
    refine Ev.bind hG ?_
    have hloop := put_loop a ha (groupN c) (fun x hx => by have := hgr.1 x hx; omega) (len7 (by omega) hgr) (h : Int) gs (m : Int) hs ((a + m : Nat) : Int) (famN (a + m) (putP gs a h hs)) true ?_ (groupN c).length 0 (Nat.zero_le _) rfl
    · have hca : ((a + 1 : Nat) : Int) = (a : Int) + 1 := by omega
      rw [hca]
      exact hloop
    · rw [hsp.1, hsp.2]
      have hca : (a : Int) + 1 = ((a + 1 : Nat) : Int) := by omega
      rw [hca]
      have hop : openN (famN (a + m) (putP gs a h hs)) c = putP gs a h hs c := openN_famN ham (put_mono ha hv hv' hh) hc
      cases hq : openN hs (c / 2 ^ a) with
      | true =>
        have hD : putP gs a h hs c = openN gs (wideN (c % 2 ^ a) h ||| 1 <<< h) := by unfold putP putD; rw [hq, if_pos rfl]
        have hW := awide_is (c := c % 2 ^ a) (h := h) (t := 1) (by omega) (by omega) (by omega)
        rw [show decide (1 = 1) = true from rfl] at hW
        refine Ev.step (fun k => by simp only [laws_FnPut.l0]; rw [if_neg (by omega)]) ?_
        refine Ev.bind (may_is hv' hdc) ?_
        rw [hq]
        refine Ev.bind hW ?_
        refine Ev.bind (may_is hv (leave_lt ha hh (by omega) hcm)) ?_
        refine Ev.bind (may_is hvp hc) ?_
        rw [hop, hD]
        simp only [if_true, beq_self_eq_true]
        exact Ev.now true
      | false =>
        have hD : putP gs a h hs c = openN gs (wideN (c % 2 ^ a) h ||| 0 <<< h) := by unfold putP putD; rw [hq, if_neg (by simp)]; simp
        have hW := awide_is (c := c % 2 ^ a) (h := h) (t := 0) (by omega) (by omega) (by omega)
        rw [show decide (0 = 1) = false from rfl] at hW
        refine Ev.step (fun k => by simp only [laws_FnPut.l0]; rw [if_neg (by omega)]) ?_
        refine Ev.bind (may_is hv' hdc) ?_
        rw [hq]
        refine Ev.bind hW ?_
        refine Ev.bind (may_is hv (leave_lt ha hh (by omega) hcm)) ?_
        refine Ev.bind (may_is hvp hc) ?_
        rw [hop, hD]
        simp only [if_true, beq_self_eq_true]
        exact Ev.now true

end Go.Proofs.Ytmeaffkgnmgmeaa.Pure
