/- The last holders of a family that was put together are a module, and a family is put together anew of what its module and the rest open. No program in sight. -/
import Derived.Test.YtgemfighmnnmeaaGreatPut
import Derived.Test.YtgemfighmnnmeaaGreatOut
import Derived.Test.YtgemfighmnnmeaaGreatTMay0
namespace Go.Proofs.YtgemfighmnnmeaaGreat.ModLaw
open Go.Proofs.YtgemfighmnnmeaaGreat.Fam Go.Proofs.YtgemfighmnnmeaaGreat.Bits Go.Proofs.YtgemfighmnnmeaaGreat.Valid Go.Proofs.YtgemfighmnnmeaaGreat.FamLaw Go.Proofs.YtgemfighmnnmeaaGreat.RenLaw Go.Proofs.YtgemfighmnnmeaaGreat.ModN Go.Proofs.YtgemfighmnnmeaaGreat.ModF Go.Proofs.YtgemfighmnnmeaaGreat.Sub Go.Proofs.YtgemfighmnnmeaaGreat.Out Go.Proofs.YtgemfighmnnmeaaGreat.Leave Go.Proofs.YtgemfighmnnmeaaGreat.Put Go.Proofs.YtgemfighmnnmeaaGreat.TMay
set_option linter.unusedVariables false
set_option maxRecDepth 100000

/-! ### the family that is put together is monotone -/
theorem wide_sub_all : ∀ h : Fin 7, ∀ c : Fin 64, ∀ d : Fin 64, d.val &&& c.val = c.val → wideN d.val h.val &&& wideN c.val h.val = wideN c.val h.val ∧ (wideN d.val h.val ||| 1 <<< h.val) &&& (wideN c.val h.val ||| 1 <<< h.val) = wideN c.val h.val ||| 1 <<< h.val := by decide +kernel
theorem two6 {m : Nat} (hm : m ≤ 6) : 2 ^ m ≤ 64 := by have := Nat.pow_le_pow_right (n := 2) (by omega) hm; simpa using this
theorem mod_sub {c d a : Nat} (h : d &&& c = c) : (d % 2 ^ a) &&& (c % 2 ^ a) = c % 2 ^ a := by
  rw [← Nat.and_mod_two_pow, h]
theorem div_sub {c d a : Nat} (h : d &&& c = c) : (d / 2 ^ a) &&& (c / 2 ^ a) = c / 2 ^ a := by
  rw [← Nat.shiftRight_eq_div_pow, ← Nat.shiftRight_eq_div_pow, ← Nat.shiftRight_and_distrib, h]
theorem putD_lt {a h c : Nat} (ha : a ≤ 6) (hh : h ≤ a) (gs hs : List (List Int)) : putD gs a h hs c < 2 ^ (a + 1) := by
  have hl := wide_lt ha (Nat.mod_lt c (Nat.two_pow_pos a)) hh
  unfold putD
  split
  · exact hl.2
  · exact hl.1
theorem put_mono {a m : Nat} {gs hs : List (List Int)} (ha : a ≤ 6) (hv : ValidF ((a + 1 : Nat) : Int) gs) (hv' : ValidF (m : Int) hs) {h : Nat} (hh : h ≤ a) : Mono (a + m) (putP gs a h hs) := by
  intro c d hc hd hsub hp
  have h6 := two6 ha
  have hpa := Nat.two_pow_pos a
  unfold putP at *
  have hcm := Nat.mod_lt c hpa
  have hdm := Nat.mod_lt d hpa
  have hw := wide_sub_all ⟨h, by omega⟩ ⟨c % 2 ^ a, by omega⟩ ⟨d % 2 ^ a, by omega⟩ (mod_sub hsub)
  have hdc : c / 2 ^ a < 2 ^ m := by rw [Nat.div_lt_iff_lt_mul hpa, ← Nat.pow_add, Nat.add_comm]; exact hc
  have hdd : d / 2 ^ a < 2 ^ m := by rw [Nat.div_lt_iff_lt_mul hpa, ← Nat.pow_add, Nat.add_comm]; exact hd
  have hmo := open_mono hv' _ _ hdc hdd (div_sub hsub)
  refine open_mono hv _ _ (putD_lt ha hh gs hs) (putD_lt ha hh gs hs) ?_ hp
  have hlc := wide_lt ha hcm hh
  have hld := wide_lt ha hdm hh
  unfold putD
  cases hqc : openN hs (c / 2 ^ a) with
  | true => rw [hmo hqc, if_pos rfl, if_pos rfl]; exact hw.2
  | false =>
    simp only [Bool.false_eq_true, if_false]
    split
    · apply Nat.eq_of_testBit_eq
      intro i
      have := congrArg (fun x => x.testBit i) hw.1
      simp only [Nat.testBit_and, Nat.testBit_or] at this ⊢
      revert this
      cases (wideN (d % 2 ^ a) h).testBit i <;> cases (wideN (c % 2 ^ a) h).testBit i <;> simp
    · exact hw.1

/-! ### the last holders -/
/-- The last b of a + b holders. -/
def lastG (a b : Nat) : List Int := (List.range b).map fun k => ((a + k : Nat) : Int)
theorem last_all : ∀ a : Fin 3, ∀ b : Fin 4, isGroupN (a.val + b.val) (lastG a.val b.val) ∧ bitsN (lastG a.val b.val) = 2 ^ (a.val + b.val) - 2 ^ a.val ∧ restG (a.val + b.val) (lastG a.val b.val) = groupN (2 ^ a.val - 1) ∧ (groupN (2 ^ a.val - 1)).length = a.val := by decide +kernel
theorem spread_all2 : ∀ a : Fin 3, ∀ b : Fin 4, ∀ c : Fin 32, spreadN (lastG a.val b.val) c.val = (c.val % 2 ^ b.val) * 2 ^ a.val ∧ spreadN (groupN (2 ^ a.val - 1)) c.val = c.val % 2 ^ a.val := by decide +kernel
theorem split_all : ∀ a : Fin 3, ∀ c : Fin 32, (c.val % 2 ^ a.val) ||| (c.val / 2 ^ a.val) * 2 ^ a.val = c.val := by decide +kernel
theorem part_all : ∀ a : Fin 3, ∀ b : Fin 4, ∀ x : Fin 32, x.val < 2 ^ (a.val + b.val) → x.val &&& (2 ^ (a.val + b.val) - 2 ^ a.val) = 0 → x.val < 2 ^ a.val := by decide +kernel
theorem high_all : ∀ a : Fin 3, ∀ b : Fin 4, ∀ y : Fin 32, (2 ^ (a.val + b.val) - 2 ^ a.val) &&& y.val = y.val → y.val % 2 ^ a.val = 0 := by decide +kernel
theorem sub_all : ∀ a : Fin 3, ∀ b : Fin 4, ∀ y : Fin 32, y.val < 2 ^ (a.val + b.val) → (2 ^ (a.val + b.val) - 2 ^ a.val) &&& ((y.val / 2 ^ a.val) * 2 ^ a.val) = (y.val / 2 ^ a.val) * 2 ^ a.val := by decide +kernel
theorem or_all2 : ∀ a : Fin 3, ∀ x : Fin 4, ∀ y : Fin 32, x.val < 2 ^ a.val → y.val % 2 ^ a.val = 0 → (x.val ||| y.val) % 2 ^ a.val = x.val ∧ (x.val ||| y.val) / 2 ^ a.val = y.val / 2 ^ a.val ∧ (x.val ||| y.val) < 32 := by decide +kernel
theorem one_all : ∀ a : Fin 3, ∀ x : Fin 4, x.val < 2 ^ a.val → wideN x.val a.val = x.val ∧ (x.val ||| 1 <<< a.val).testBit a.val = true ∧ x.val.testBit a.val = false ∧ (x.val ||| 1 <<< a.val) % 2 ^ a.val = x.val ∧ (x.val ||| 1 <<< a.val) < 2 ^ (a.val + 1) := by decide +kernel
theorem zero_all : ∀ a : Fin 3, ∀ b : Fin 4, ∀ x : Fin 4, x.val < 2 ^ a.val → x.val &&& (2 ^ (a.val + b.val) - 2 ^ a.val) = 0 := by decide +kernel
theorem full_lt : ∀ a : Fin 3, ∀ b : Fin 4, 2 ^ (a.val + b.val) ≤ 32 ∧ 2 ^ a.val ≤ 4 ∧ 2 ^ (a.val + b.val) - 2 ^ a.val < 2 ^ (a.val + b.val) ∧ (2 ^ (a.val + b.val) - 2 ^ a.val) / 2 ^ a.val = 2 ^ b.val - 1 ∧ (2 ^ (a.val + b.val) - 2 ^ a.val) % 2 ^ a.val = 0 := by decide +kernel
theorem top_sub_all : ∀ b : Fin 4, ∀ y : Fin 8, y.val < 2 ^ b.val → (2 ^ b.val - 1) &&& y.val = y.val := by decide +kernel

section
variable {a b : Nat} (ha : a ≤ 2) (hb : b ≤ 3)
include ha hb
theorem last_is : isGroupN (a + b) (lastG a b) ∧ bitsN (lastG a b) = 2 ^ (a + b) - 2 ^ a ∧ restG (a + b) (lastG a b) = groupN (2 ^ a - 1) ∧ (groupN (2 ^ a - 1)).length = a := last_all ⟨a, by omega⟩ ⟨b, by omega⟩
theorem full_is : 2 ^ (a + b) ≤ 32 ∧ 2 ^ a ≤ 4 ∧ 2 ^ (a + b) - 2 ^ a < 2 ^ (a + b) ∧ (2 ^ (a + b) - 2 ^ a) / 2 ^ a = 2 ^ b - 1 ∧ (2 ^ (a + b) - 2 ^ a) % 2 ^ a = 0 := full_lt ⟨a, by omega⟩ ⟨b, by omega⟩
/-- What the last holders open of a family that was put together, where they make a difference. -/
theorem put_rel {fs hs : List (List Int)} (hb1 : 1 ≤ b) (hv : ValidF ((a + 1 : Nat) : Int) fs) (hv' : ValidF (b : Int) hs) {h : Nat} (hh : h ≤ a) {x : Nat} (hx : x < 2 ^ (a + b)) (hr : relO (famN (a + b) (putP fs a h hs)) (bitsN (lastG a b)) x = true) {y : Nat} (hy : bitsN (lastG a b) &&& y = y) :
    openN (famN (a + b) (putP fs a h hs)) (x ||| y) = openN hs (y / 2 ^ a) := by
  obtain ⟨hg, hm, _, _⟩ := last_is ha hb
  obtain ⟨f32, f4, flt, fd, fm⟩ := full_is ha hb
  rw [hm] at hr hy
  have hylt : y < 2 ^ (a + b) := Nat.lt_of_le_of_lt (by rw [← hy]; exact Nat.and_le_left) flt
  have hG : ∀ c, c < 2 ^ (a + b) → openN (famN (a + b) (putP fs a h hs)) c = putP fs a h hs c := fun c hc => openN_famN (by omega) (put_mono (by omega) hv hv' hh) hc
  unfold relO rel at hr
  simp only [Bool.and_eq_true, Bool.not_eq_true', decide_eq_true_eq] at hr
  obtain ⟨hx0, hx1, hx2⟩ := hr
  have hxa := part_all ⟨a, by omega⟩ ⟨b, by omega⟩ ⟨x, by omega⟩ hx hx0
  have hya := high_all ⟨a, by omega⟩ ⟨b, by omega⟩ ⟨y, by omega⟩ hy
  have hxa' : x < 2 ^ a := hxa
  have ho := or_all2 ⟨a, by omega⟩ ⟨x, by omega⟩ ⟨y, by omega⟩ hxa hya
  have hom := or_all2 ⟨a, by omega⟩ ⟨x, by omega⟩ ⟨2 ^ (a + b) - 2 ^ a, by omega⟩ hxa fm
  simp only at ho hom
  rw [hG x hx] at hx1
  rw [hG _ (Nat.or_lt_two_pow hx flt)] at hx2
  rw [hG _ (Nat.or_lt_two_pow hx hylt)]
  unfold putP putD at *
  rw [ho.1, ho.2.1]
  rw [hom.1, hom.2.1, fd] at hx2
  rw [Nat.mod_eq_of_lt hxa', Nat.div_eq_of_lt hxa'] at hx1
  have hyb : y / 2 ^ a < 2 ^ b := by rw [Nat.div_lt_iff_lt_mul (Nat.two_pow_pos a), ← Nat.pow_add, Nat.add_comm]; exact hylt
  have h2b : 2 ^ b ≤ 8 := by have := Nat.pow_le_pow_right (n := 2) (by omega) hb; simpa using this
  have hpb := Nat.two_pow_pos b
  cases h0 : openN hs 0 with
  | true =>
    have htop := open_mono hv' 0 (2 ^ b - 1) hpb (by omega) (Nat.and_zero _) h0
    rw [h0, if_pos rfl] at hx1
    rw [htop, if_pos rfl, hx1] at hx2
    cases hx2
  | false =>
    rw [h0, if_neg (by decide)] at hx1
    cases hq : openN hs (y / 2 ^ a) with
    | true =>
      have htop := open_mono hv' _ (2 ^ b - 1) hyb (by omega) (top_sub_all ⟨b, by omega⟩ ⟨y / 2 ^ a, by omega⟩ hyb) hq
      rw [htop, if_pos rfl] at hx2
      rw [if_pos rfl]
      exact hx2
    | false =>
      rw [if_neg (by decide)]
      exact hx1
theorem put_agree {fs hs : List (List Int)} (hb1 : 1 ≤ b) (hv : ValidF ((a + 1 : Nat) : Int) fs) (hv' : ValidF (b : Int) hs) {h : Nat} (hh : h ≤ a) : agree (famN (a + b) (putP fs a h hs)) (bitsN (lastG a b)) (2 ^ (a + b)) :=
  fun x x' hx hx' hr hr' y hy => by rw [put_rel ha hb hb1 hv hv' hh hx hr hy, put_rel ha hb hb1 hv hv' hh hx' hr' hy]
end

/-! ### what the module and the rest open is monotone -/
theorem spread_mono (g : List Int) {c d : Nat} (h : d &&& c = c) : spreadN g d &&& spreadN g c = spreadN g c := by
  rw [covers_iff] at *
  intro j hj
  obtain ⟨k, hk, hc, e⟩ := (spread_bit g c j).1 hj
  exact (spread_bit g d j).2 ⟨k, hk, h k hc, e⟩
theorem out_mono {n : Nat} {gs : List (List Int)} (hv : ValidF (n : Int) gs) {g : List Int} (hg : isGroupN n g) (m : Nat) : Mono m (outP n gs g) := by
  intro c d hc hd hs hp
  have hn : n ≤ 7 := by have := hv.1; omega
  unfold outP at *
  refine open_mono hv _ _ (outX_lt hn hg c) (outX_lt hn hg d) ?_ hp
  have h1 := spread_mono (restG n g) hs
  rw [covers_iff] at *
  intro j hj
  have h2 := hs (restG n g).length
  unfold outX at hj ⊢
  by_cases hc1 : c.testBit (restG n g).length = true
  · rw [if_pos hc1, Nat.testBit_or, Bool.or_eq_true] at hj
    rw [if_pos (h2 hc1), Nat.testBit_or, Bool.or_eq_true]
    exact hj.imp (h1 j) id
  · rw [if_neg hc1] at hj
    split
    · rw [Nat.testBit_or, Bool.or_eq_true]; exact .inl (h1 j hj)
    · exact h1 j hj
theorem or_sub {x c d : Nat} (h : d &&& c = c) : (x ||| d) &&& (x ||| c) = x ||| c := by
  rw [covers_iff] at *
  intro j hj
  rw [Nat.testBit_or, Bool.or_eq_true] at *
  exact hj.imp id (h j)
theorem sub_mono {n : Nat} {gs : List (List Int)} (hv : ValidF (n : Int) gs) {g : List Int} (hg : isGroupN n g) (m : Nat) : Mono m (subP n gs g) := by
  intro c d hc hd hs hp
  unfold subP ownP at *
  rw [List.any_eq_true] at *
  obtain ⟨x, hx, h⟩ := hp
  rw [Bool.and_eq_true] at h
  refine ⟨x, hx, ?_⟩
  rw [Bool.and_eq_true]
  have hxl := List.mem_range.1 hx
  exact ⟨h.1, open_mono hv _ _ (Nat.or_lt_two_pow hxl (spread_lt hg.1 c)) (Nat.or_lt_two_pow hxl (spread_lt hg.1 d)) (or_sub (spread_mono g hs)) h.2⟩

/-! ### put together anew -/
theorem put_back {a b : Nat} (ha : a ≤ 2) (hb : b ≤ 3) (hb1 : 1 ≤ b) {G : List (List Int)} (hv : ValidF ((a + b : Nat) : Int) G) (hA : agree G (bitsN (lastG a b)) (2 ^ (a + b))) :
    famN (a + b) (putP (famN (a + 1) (outP (a + b) G (lastG a b))) a a (famN b (subP (a + b) G (lastG a b)))) = G := by
  have hn : a + b ≤ 7 := by omega
  obtain ⟨hg, hm, hrest, hrl⟩ := last_is ha hb
  obtain ⟨f32, f4, flt, fd, fm⟩ := full_is ha hb
  refine (famN_congr (fun c hc => ?_)).trans (famN_openN hn hv)
  have hpa := Nat.two_pow_pos a
  have hxm := Nat.mod_lt c hpa
  have hyb : c / 2 ^ a < 2 ^ b := by rw [Nat.div_lt_iff_lt_mul hpa, ← Nat.pow_add, Nat.add_comm]; exact hc
  have h2b : 2 ^ b ≤ 8 := by have := Nat.pow_le_pow_right (n := 2) (by omega) hb; simpa using this
  have h1 := one_all ⟨a, by omega⟩ ⟨c % 2 ^ a, by omega⟩ hxm
  simp only at h1
  have hsp := spread_all2 ⟨a, by omega⟩ ⟨b, by omega⟩ ⟨c / 2 ^ a, by omega⟩
  have hs1 := (spread_all2 ⟨a, by omega⟩ ⟨b, by omega⟩ ⟨c % 2 ^ a ||| 1 <<< a, by have := h1.2.2.2.2; have h2a : 2 ^ (a + 1) = 2 ^ a * 2 := Nat.pow_succ ..; omega⟩).2
  have hs2 := (spread_all2 ⟨a, by omega⟩ ⟨b, by omega⟩ ⟨c % 2 ^ a, by omega⟩).2
  have hspl := split_all ⟨a, by omega⟩ ⟨c, by omega⟩
  have hsub := sub_all ⟨a, by omega⟩ ⟨b, by omega⟩ ⟨c, by omega⟩ hc
  simp only at hsp hs1 hs2 hspl hsub
  have hx2 : c % 2 ^ a < 2 ^ (a + 1) := by have h2a : 2 ^ (a + 1) = 2 ^ a * 2 := Nat.pow_succ ..; omega
  have ho1 : openN (famN (a + 1) (outP (a + b) G (lastG a b))) (c % 2 ^ a ||| 1 <<< a) = openN G (c % 2 ^ a ||| (2 ^ (a + b) - 2 ^ a)) := by
    rw [openN_famN (by omega) (out_mono hv hg _) h1.2.2.2.2]
    unfold outP outX
    rw [hrest, hrl, if_pos h1.2.1, hs1, h1.2.2.2.1, hm]
  have ho2 : openN (famN (a + 1) (outP (a + b) G (lastG a b))) (c % 2 ^ a) = openN G (c % 2 ^ a) := by
    rw [openN_famN (by omega) (out_mono hv hg _) hx2]
    unfold outP outX
    rw [hrest, hrl, if_neg (by rw [h1.2.2.1]; decide), hs2, Nat.mod_mod]
  have hM : openN (famN b (subP (a + b) G (lastG a b))) (c / 2 ^ a) = ownP G (bitsN (lastG a b)) (2 ^ (a + b)) (c / 2 ^ a * 2 ^ a) := by
    rw [openN_famN (by omega) (sub_mono hv hg _) hyb]
    unfold subP
    rw [hsp.1, Nat.mod_eq_of_lt hyb]
  have hxn : c % 2 ^ a < 2 ^ (a + b) := Nat.lt_of_le_of_lt (Nat.mod_le _ _) hc
  have e0 : (c % 2 ^ a) &&& (2 ^ (a + b) - 2 ^ a) = 0 := by
    have := zero_all ⟨a, by omega⟩ ⟨b, by omega⟩ ⟨c % 2 ^ a, by omega⟩ hxm
    exact this
  have hup : (c % 2 ^ a ||| (2 ^ (a + b) - 2 ^ a)) &&& c = c := by
    have := or_sub (x := c % 2 ^ a) hsub
    rwa [hspl] at this
  have hlow : c &&& (c % 2 ^ a) = c % 2 ^ a := by
    conv => lhs; arg 1; rw [← hspl]
    rw [covers_iff]
    intro j hj
    rw [Nat.testBit_or, hj, Bool.true_or]
  show openN _ (putD _ a a _ c) = _
  unfold putD
  rw [h1.1, hM]
  have hmono := open_mono hv
  have htl := Nat.or_lt_two_pow hxn flt
  cases hx : openN G (c % 2 ^ a) with
  | true =>
    have hcT := hmono _ _ hxn hc hlow hx
    rw [hcT]
    split
    · rw [ho1]; exact hmono _ _ hc htl hup hcT
    · rw [ho2]; exact hx
  | false =>
    cases ht : openN G (c % 2 ^ a ||| (2 ^ (a + b) - 2 ^ a)) with
    | false =>
      have hcF : openN G c = false := by
        cases hcc : openN G c with
        | false => rfl
        | true => have := hmono _ _ hc htl hup hcc; rw [this] at ht; cases ht
      rw [hcF]
      split
      · rw [ho1]; exact ht
      · rw [ho2]; exact hx
    | true =>
      have hr : relO G (bitsN (lastG a b)) (c % 2 ^ a) = true := by
        unfold relO rel
        rw [hm, decide_eq_true e0, hx, ht]
        rfl
      have hoP := ownP_of hA hxn hr (y := c / 2 ^ a * 2 ^ a) (by rw [hm]; exact hsub)
      rw [hspl] at hoP
      rw [hoP]
      cases hcc : openN G c with
      | true => rw [if_pos rfl, ho1]; exact ht
      | false => rw [if_neg (by decide), ho2]; exact hx

/-! ### groups that are always modules, and that never are -/
theorem mod_none (n : Nat) (gs : List (List Int)) : isModB n gs [] = false := rfl
theorem len_bits_all : ∀ n : Fin 8, ∀ c : Fin 128, c.val < 2 ^ n.val → (groupN c.val).length = n.val → c.val = 2 ^ n.val - 1 := by decide +kernel
theorem one_bits_all : ∀ c : Fin 128, ∀ y : Fin 128, (groupN c.val).length = 1 → c.val &&& y.val = y.val → y.val = 0 ∨ y.val = c.val := by decide +kernel
theorem mod_one {n : Nat} {gs : List (List Int)} (hv : ValidF (n : Int) gs) {c : Nat} (hc : c < 2 ^ n) (h : (groupN c).length = 1) : isModB n gs (groupN c) = true := by
  have hn : n ≤ 7 := by have := hv.1; omega
  have h7 := two_pow_le hn
  have hb := bitsN_groupN (c := c) (by omega)
  unfold isModB
  rw [h, hb, Bool.and_eq_true]
  refine ⟨by decide, (agree_iff hc).2 ?_⟩
  intro x x' hx hx' hr hr' y hy
  have hyl : y < 128 := Nat.lt_of_le_of_lt (by rw [← hy]; exact Nat.and_le_left) (show c < 128 by omega)
  unfold relO rel at hr hr'
  simp only [Bool.and_eq_true, Bool.not_eq_true', decide_eq_true_eq] at hr hr'
  rcases one_bits_all ⟨c, by omega⟩ ⟨y, hyl⟩ h hy with e | e
  · have e : y = 0 := e
    subst e
    rw [Nat.or_zero, Nat.or_zero, hr.2.1, hr'.2.1]
  · have e : y = c := e
    subst e
    rw [hr.2.2, hr'.2.2]
theorem mod_all {n : Nat} {gs : List (List Int)} (hv : ValidF (n : Int) gs) {c : Nat} (hc : c < 2 ^ n) (h : (groupN c).length = n) : isModB n gs (groupN c) = true := by
  have hn := hv.1
  have h7 := two_pow_le (n := n) (by omega)
  have hb := bitsN_groupN (c := c) (by omega)
  have e := len_bits_all ⟨n, by omega⟩ ⟨c, by omega⟩ hc h
  simp only at e
  unfold isModB
  rw [h, hb, Bool.and_eq_true]
  refine ⟨decide_eq_true (by omega), (agree_iff hc).2 ?_⟩
  intro x x' hx hx' hr hr' y hy
  unfold relO at hr hr'
  simp only [Bool.and_eq_true, decide_eq_true_eq] at hr hr'
  have key : ∀ z, z < 2 ^ n → z &&& c = 0 → z = 0 := fun z hz h0 => by
    have h1 : c &&& z = z := by rw [e, Nat.and_comm, Nat.and_two_pow_sub_one_of_lt_two_pow hz]
    rw [Nat.and_comm] at h0
    rw [← h1, h0]
  rw [key x hx hr.1, key x' hx' hr'.1]
theorem modP_list {n : Nat} (hn : n ≤ 7) (p : Nat → Bool) {c : Nat} (hc : c < 2 ^ n) : (crowdsN n p).any (fun g => decide (g = groupN c)) = p c := by
  have h7 := two_pow_le hn
  cases ho : p c with
  | true =>
    rw [List.any_eq_true]
    exact ⟨groupN c, mem_crowdsN.2 ⟨c, hc, ho, rfl⟩, decide_eq_true rfl⟩
  | false =>
    rw [List.any_eq_false]
    intro g hg hx
    obtain ⟨b, hb, hp, rfl⟩ := mem_crowdsN.1 hg
    have h1 := congrArg bitsN (of_decide_eq_true hx)
    rw [bitsN_groupN (by omega), bitsN_groupN (by omega)] at h1
    subst h1
    rw [ho] at hp
    cases hp
end Go.Proofs.YtgemfighmnnmeaaGreat.ModLaw
