/- What the printed comparisons compute. No program in sight. What the printed functions on sets compute, as plain numbers. No program in sight. Contracts of slices.IndexFunc and slices.ContainsFunc at [][]int64 and []int64, whatever predicate is handed over (it may make memory of its own). Contract of Family.opens: whether a set of holders has all holders of one of the groups. What ValidFamily tells: a family is valid, as plain Lean says it. No program in sight. Laws of families in plain Lean: what the least groups of a predicate on sets open. No program in sight. -/
import Derived.Test.YtgemfighmnnmeaaGreatGb
import Derived.Test.YtgemfighmnnmeaaGreatFam
import Derived.Laws.BitsAllLaws
import Derived.Test.YtgemfighmnnmeaaGreatWWords
import Derived.Test.YtgemfighmnnmeaaGreatWMore
import Derived.Test.YtgemfighmnnmeaaGreatProg
import Derived.WalkKit
import Derived.Deep.LoopGhost
import Derived.Shelf.Abstract
namespace Go.Proofs.YtgemfighmnnmeaaGreat.Bits
open Go.RowKit Go.Proofs.YtgemfighmnnmeaaGreatW.PrintWords Go.Proofs.YtgemfighmnnmeaaGreatW.PrintMore Go.Proofs.YtgemfighmnnmeaaGreat.G Go.Proofs.YtgemfighmnnmeaaGreat.Fam Go.Proofs.YtgemfighmnnmeaaGreat.Loops
set_option linter.unusedVariables false
set_option maxRecDepth 100000

theorem compare_int (a b : Int) : cmp_Compare_int64.f a b = some (if a < b then -1 else if b < a then 1 else 0) := by
 unfold cmp_Compare_int64.f cmp_isNaN_int64.f
 simp only [Option.bind_some, bne_self_eq_false, Bool.false_eq_true, if_false]
 by_cases h1 : a < b
 ·
  simp [h1]
 ·
  by_cases h2 : b < a <;> simp [h1, h2]
theorem compare_loop (a b : List Int) (ha : a.length ≤ 9223372036854775807) : ∀ (d k n : Nat), n ≤ a.length → n ≤ b.length → a.length - n = d → d < k →
  a.take n = b.take n → slices_Compare_int64_int64.l0 k a b a (a.length : Int) (n : Int) = some (cmpL (a.drop n) (b.drop n)) := by
 intro d
 induction d with
 | zero =>
  intro k n hn hnb hd hk ht
  obtain ⟨k, rfl⟩ : ∃ m, k = m + 1 := ⟨k - 1, by omega⟩
  obtain rfl : n = a.length := by omega
  simp only [slices_Compare_int64_int64.l0]
  rw [if_neg (by omega), List.drop_length]
  by_cases h : a.length < b.length
  ·
   rw [if_pos (by omega), List.drop_eq_getElem_cons h]
   rfl
  ·
   rw [if_neg (by omega), List.drop_eq_nil_of_le (by omega)]
   rfl
 | succ d ih =>
  intro k n hn hnb hd hk ht
  obtain ⟨k, rfl⟩ : ∃ m, k = m + 1 := ⟨k - 1, by omega⟩
  have hlt : n < a.length := by omega
  simp only [slices_Compare_int64_int64.l0]
  rw [if_pos (by omega), if_pos (by omega), if_pos (by omega), List.drop_eq_getElem_cons hlt]
  by_cases h : n < b.length
  ·
   rw [if_neg (by omega), if_pos (by omega), compare_int, rd_nat, rd_nat, List.drop_eq_getElem_cons h]
   simp only [List.getD, List.getElem?_eq_getElem hlt, List.getElem?_eq_getElem h, Option.getD_some, Option.bind_some, cmpL]
   by_cases h1 : a[n] < b[n]
   ·
    simp [h1]
   ·
    by_cases h2 : b[n] < a[n]
    ·
     simp [h1, h2]
    ·
     simp only [if_neg h1, if_neg h2]
     rw [if_pos trivial, wrap_id (by omega) (by omega)]
     refine ih k (n + 1) (by omega) (by omega) (by omega) (by omega) ?_
     rw [List.take_succ_eq_append_getElem hlt, List.take_succ_eq_append_getElem h, ht, show a[n] = b[n] by omega]
  ·
   rw [if_pos (by omega), List.drop_eq_nil_of_le (show b.length ≤ n by omega)]
   rfl
theorem compare_is (a b : List Int) (k : Nat) (ha : a.length ≤ 9223372036854775807) (hk : a.length < k) : slices_Compare_int64_int64.f k a b = some (cmpL a b) := by
 unfold slices_Compare_int64_int64.f
 exact compare_loop a b ha a.length k 0 (by omega) (by omega) (by omega) hk rfl


end Go.Proofs.YtgemfighmnnmeaaGreat.Bits

namespace Go.Proofs.YtgemfighmnnmeaaGreat.Bits
open Go.RowKit Go.Proofs.YtgemfighmnnmeaaGreatW.PrintWords Go.Proofs.YtgemfighmnnmeaaGreatW.PrintMore Go.Proofs.YtgemfighmnnmeaaGreat.G Go.Proofs.YtgemfighmnnmeaaGreat.Fam Go.Proofs.YtgemfighmnnmeaaGreat.Loops
set_option linter.unusedVariables false
set_option maxRecDepth 100000

theorem more {α : Type} {g : Nat → Option α} (h : ∀ k, LeO (g k) (g (k + 1))) {k k' : Nat} (hk : k ≤ k') {r : α} (hr : g k = some r) : g k' = some r := at_rounds h hk hr

/-! ### sets of at most seven holders: by looking at all of them -/
theorem has_all : ∀ c : Fin 128, ∀ h : Fin 7, impl_crowd_has.f ((c.val : Nat) : Int) ((h.val : Nat) : Int) = some (c.val.testBit h.val) := by decide +kernel
theorem has_is {c h : Nat} (hc : c < 128) (hh : h < 7) : impl_crowd_has.f (c : Int) (h : Int) = some (c.testBit h) := has_all ⟨c, hc⟩ ⟨h, hh⟩
theorem everybody_all : ∀ n : Fin 8, impl_everybody.f ((n.val : Nat) : Int) = some ((2 ^ n.val - 1 : Nat) : Int) := by decide +kernel
theorem everybody_is {n : Nat} (hn : n ≤ 7) : impl_everybody.f (n : Int) = some ((2 ^ n - 1 : Nat) : Int) := everybody_all ⟨n, by omega⟩
theorem group_all : ∀ c : Fin 128, impl_crowd_group.f 9 ((c.val : Nat) : Int) = some (groupN c.val) := by decide +kernel
theorem group_is {c k : Nat} (hc : c < 128) (hk : 9 ≤ k) : impl_crowd_group.f k (c : Int) = some (groupN c) :=
 more (g := fun k => impl_crowd_group.f k (c : Int)) (fun k => impl_crowd_group.mono _ k) hk (group_all ⟨c, hc⟩)
theorem or_all : ∀ c : Fin 128, ∀ h : Fin 7, Go.bits .or .u64 ((c.val : Nat) : Int) (shl .u64 1 ((h.val : Nat) : Int)) = ((c.val ||| 1 <<< h.val : Nat) : Int) := by decide +kernel
theorem or_is {c h : Nat} (hc : c < 128) (hh : h < 7) : Go.bits .or .u64 (c : Int) (shl .u64 1 (h : Int)) = ((c ||| 1 <<< h : Nat) : Int) := or_all ⟨c, hc⟩ ⟨h, hh⟩
theorem or_lt {c h : Nat} (hc : c < 128) (hh : h < 7) : c ||| 1 <<< h < 128 := by
 refine Nat.or_lt_two_pow (n := 7) hc ?_
 rw [Nat.one_shiftLeft]
 exact Nat.pow_lt_pow_right (by omega) hh
theorem contains_is {a b : Nat} (ha : a < 128) (hb : b < 128) : impl_crowd_contains.f (a : Int) (b : Int) = some (decide (a &&& b = b)) := by
 unfold impl_crowd_contains.f
 rw [u64_and_nat a b (by omega) (by omega)]
 congr 1
 rw [Bool.eq_iff_iff, beq_iff_eq, decide_eq_true_iff]
 omega

/-! ### lists -/
theorem within_is (a b c : Int) : impl_within.f a b c = some (decide (b ≤ a ∧ a ≤ c)) := by
 unfold impl_within.f
 by_cases h : a ≥ b
 ·
  rw [if_pos h]; congr 1; apply decide_eq_decide.2; omega
 ·
  rw [if_neg h]; congr 1; symm; apply decide_eq_false; omega
theorem foldl_lt (g : List Int) (hg : ∀ x ∈ g, 0 ≤ x ∧ x < 7) : ∀ c, c < 128 → g.foldl (fun b h => b ||| 1 <<< h.toNat) c < 128 := by
 induction g with
 | nil => intro c hc; exact hc
 | cons a g ih =>
  intro c hc
  have := hg a (by simp)
  exact ih (fun x hx => hg x (by simp [hx])) _ (or_lt hc (by omega))
theorem crowdOf_loop (g : List Int) (hl : g.length ≤ 9223372036854775807) (hg : ∀ x ∈ g, 0 ≤ x ∧ x < 7) : ∀ (d k n c : Nat), n ≤ g.length → g.length - n = d → d < k → c < 128 →
  impl_crowdOf.l0 k (c : Int) g (g.length : Int) (n : Int) = some ((((g.drop n).foldl (fun b h => b ||| 1 <<< h.toNat) c : Nat)) : Int) := by
 intro d
 induction d with
 | zero =>
  intro k n c hn hd hk hc
  obtain ⟨k, rfl⟩ : ∃ m, k = m + 1 := ⟨k - 1, by omega⟩
  obtain rfl : n = g.length := by omega
  simp only [impl_crowdOf.l0]
  rw [if_neg (by omega), List.drop_length]
  rfl
 | succ d ih =>
  intro k n c hn hd hk hc
  obtain ⟨k, rfl⟩ : ∃ m, k = m + 1 := ⟨k - 1, by omega⟩
  have hlt : n < g.length := by omega
  have hx := hg g[n] (List.getElem_mem hlt)
  simp only [impl_crowdOf.l0]
  rw [if_pos (by omega), if_pos (by omega), if_pos (by omega), rd_nat]
  simp only [List.getD, List.getElem?_eq_getElem hlt, Option.getD_some]
  rw [if_pos hx.1, wrap_id (by omega) (by omega)]
  obtain ⟨y, hy⟩ : ∃ y : Nat, g[n] = (y : Int) := ⟨g[n].toNat, by omega⟩
  rw [hy, or_is hc (by omega), List.drop_eq_getElem_cons hlt, List.foldl_cons, hy]
  exact ih k (n + 1) _ (by omega) (by omega) (by omega) (by exact or_lt hc (by omega))
theorem crowdOf_is (g : List Int) (k : Nat) (hl : g.length ≤ 9223372036854775807) (hg : ∀ x ∈ g, 0 ≤ x ∧ x < 7) (hk : g.length < k) : impl_crowdOf.f k g = some ((bitsN g : Nat) : Int) := by
 unfold impl_crowdOf.f
 exact crowdOf_loop g hl hg g.length k 0 0 (by omega) (by omega) hk (by omega)

instance (n : Nat) (g : List Int) : Decidable (isGroupN n g) := by unfold isGroupN; exact inferInstance
/-- isGroup, from an index on. -/
theorem isGroup_loop (m : Int) (g : List Int) (hm : 0 ≤ m) (hm2 : m < 9223372036854775807) (hl : g.length ≤ 9223372036854775807) : ∀ (d k n : Nat), n ≤ g.length → g.length - n = d → d < k →
  ∃ b, impl_isGroup.l0 k m g g (g.length : Int) (n : Int) = some b ∧ (b = true ↔ ∀ i, i < g.length → n ≤ i → (0 ≤ g.getD i 0 ∧ g.getD i 0 < m) ∧ (0 < i → g.getD (i - 1) 0 < g.getD i 0)) := by
 intro d
 induction d with
 | zero =>
  intro k n hn hd hk
  obtain ⟨k, rfl⟩ : ∃ j, k = j + 1 := ⟨k - 1, by omega⟩
  refine ⟨true, ?_, ?_⟩
  ·
   simp only [impl_isGroup.l0]; rw [if_neg (by omega)]
  ·
   simp only [true_iff]; intro i hi h; omega
 | succ d ih =>
  intro k n hn hd hk
  obtain ⟨k, rfl⟩ : ∃ j, k = j + 1 := ⟨k - 1, by omega⟩
  have hlt : n < g.length := by omega
  simp only [impl_isGroup.l0]
  rw [if_pos (by omega), if_pos (by omega), if_pos (by omega), rd_nat, within_is, wrap_id (by omega) (by omega)]
  simp only [Option.bind_some, decide_eq_true_eq]
  by_cases h1 : 0 ≤ g.getD n 0 ∧ g.getD n 0 ≤ m - 1
  ·
   rw [if_pos h1]
   obtain ⟨b, hb, hb'⟩ := ih k (n + 1) (by omega) (by omega) (by omega)
   have hnext : ((n : Int) + 1) = ((n + 1 : Nat) : Int) := by omega
   by_cases h2 : (n : Int) > 0
   ·
    rw [if_pos h2, wrap_id (by omega) (by omega), if_pos (by omega), if_pos (by omega)]
    have hprev : ((n : Int) - 1) = ((n - 1 : Nat) : Int) := by omega
    rw [hprev, rd_nat]
    by_cases h3 : g.getD n 0 ≤ g.getD (n - 1) 0
    ·
     rw [if_pos h3]
     refine ⟨false, rfl, ?_⟩
     simp only [Bool.false_eq_true, false_iff]
     intro h
     have := (h n hlt (Nat.le_refl _)).2 (by omega)
     omega
    ·
     rw [if_neg h3, wrap_id (by omega) (by omega), hnext]
     refine ⟨b, hb, hb'.trans ⟨fun h i hi hni => ?_, fun h i hi hni => h i hi (by omega)⟩⟩
     by_cases e : i = n
     ·
      subst e; exact ⟨by omega, fun _ => by omega⟩
     ·
      exact h i hi (by omega)
   ·
    rw [if_neg h2, wrap_id (by omega) (by omega), hnext]
    refine ⟨b, hb, hb'.trans ⟨fun h i hi hni => ?_, fun h i hi hni => h i hi (by omega)⟩⟩
    by_cases e : i = n
    ·
     subst e; exact ⟨by omega, fun _ => by omega⟩
    ·
     exact h i hi (by omega)
  ·
   rw [if_neg h1]
   refine ⟨false, rfl, ?_⟩
   simp only [Bool.false_eq_true, false_iff]
   intro h
   have := (h n hlt (Nat.le_refl _)).1
   omega
theorem getD_of {g : List Int} {i : Nat} (hi : i < g.length) : g.getD i 0 = g[i] := by simp [List.getD, List.getElem?_eq_getElem hi]
theorem pairwise_adj (g : List Int) : g.Pairwise (· < ·) ↔ ∀ i, i < g.length → 0 < i → g.getD (i - 1) 0 < g.getD i 0 := by
 constructor
 ·
  intro h i hi h0
  rw [getD_of hi, getD_of (show i - 1 < g.length by omega)]
  exact List.pairwise_iff_getElem.1 h (i - 1) i (by omega) hi (by omega)
 ·
  intro h
  have key : ∀ j i, j < g.length → i < j → g.getD i 0 < g.getD j 0 := by
   intro j
   induction j with
   | zero => intro i _ hi; omega
   | succ j ih =>
    intro i hj hij
    have h1 := h (j + 1) hj (by omega)
    simp only [Nat.add_sub_cancel] at h1
    by_cases e : i = j
    ·
     subst e; exact h1
    ·
     have := ih i (by omega) (by omega); omega
  rw [List.pairwise_iff_getElem]
  intro i j hi hj hij
  have := key j i hj hij
  rwa [getD_of hi, getD_of hj] at this
theorem isGroup_is (n : Nat) (g : List Int) (k : Nat) (hn : n < 9223372036854775807) (hl : g.length ≤ 9223372036854775807) (hk : g.length < k) : impl_isGroup.f k (n : Int) g = some (decide (isGroupN n g)) := by
 unfold impl_isGroup.f
 obtain ⟨b, hb, hb'⟩ := isGroup_loop n g (by omega) (by omega) hl g.length k 0 (by omega) (by omega) hk
 rw [show ((0 : Nat) : Int) = 0 from rfl] at hb
 rw [hb]
 congr 1
 rw [Bool.eq_iff_iff, hb', decide_eq_true_iff]
 unfold isGroupN
 rw [pairwise_adj]
 constructor
 ·
  intro h
  refine ⟨fun x hx => ?_, fun i hi h0 => (h i hi (by omega)).2 h0⟩
  obtain ⟨i, hi, rfl⟩ := List.mem_iff_getElem.1 hx
  have := (h i hi (by omega)).1
  rwa [getD_of hi] at this
 ·
  rintro ⟨h1, h2⟩ i hi _
  rw [getD_of hi]
  refine ⟨h1 _ (List.getElem_mem hi), fun h0 => ?_⟩
  have := h2 i hi h0
  rwa [getD_of hi] at this

end Go.Proofs.YtgemfighmnnmeaaGreat.Bits

namespace Go.Proofs.YtgemfighmnnmeaaGreat.Idx
open Go.RowKit Go.Proofs.YtgemfighmnnmeaaGreatW.PrintWords Go.Proofs.YtgemfighmnnmeaaGreatW.PrintLast Go.Proofs.YtgemfighmnnmeaaGreatW.PrintMore
set_option linter.unusedVariables false
set_option linter.unusedSimpArgs false

/-- What is asked of a function value: at every element that is ok, in every world in which all that lay in w lies untouched, it hands back p of it. -/
def PredB (P : Program) (g : Nat) (lb : Array Value) {α : Type} (d : Kd α) (ok : α → Prop) (p : α → Bool) (w : World) : Prop :=
 ∀ (W : World) (x : α) (v : Value), Below w.heap.size w W → ok x → d.K W x [v] → Calls P g (#[v] ++ lb) W fun e w' => e = .returned (.bool (p x)) ∧ Below W.heap.size W w'

theorem PredB.later {P : Program} {g : Nat} {lb : Array Value} {α : Type} {d : Kd α} {ok : α → Prop} {p : α → Bool} {w w1 : World} (h : PredB P g lb d ok p w) (hb : Below w.heap.size w w1) : PredB P g lb d ok p w1 :=
 fun W x v hB => h W x v (below_then hb hb.size hB)

/-- What IndexFunc tells. -/
def IdxPost {α : Type} (p : α → Bool) (xs : List α) (r : Int) : Prop :=
 (r = -1 ∧ ∀ x ∈ xs, p x = false) ∨ ∃ n : Nat, r = n ∧ ∃ h : n < xs.length, p xs[n] = true ∧ ∀ (j : Nat) (hj : j < n), p (xs[j]'(by omega)) = false

theorem IdxPost.any {α : Type} {p : α → Bool} {xs : List α} {r : Int} (h : IdxPost p xs r) : decide (r ≥ 0) = xs.any p := by
 rcases h with ⟨rfl, h⟩ | ⟨n, rfl, hn, h, _⟩
 ·
  symm
  have : xs.any p = false := by rw [List.any_eq_false]; intro x hx; rw [h x hx]; simp
  rw [this]; rfl
 ·
  have : xs.any p = true := List.any_eq_true.2 ⟨_, List.getElem_mem hn, h⟩
  rw [this]; simp

/-- A row's element number i, as the walk reads it. -/
theorem elem_at {α : Type} {d : Kd α} (hs : d.sz = 1) {w : World} {A : Option Addr} {n : Nat} {xs : List α} (h : d.C w A n xs) (i : Nat) (hi : i < xs.length) :
  ∃ ad v, A = some ad ∧ w.cell? (ad.add i) = some v ∧ d.K w xs[i] [v] := by
 have hn := h.1
 obtain ⟨ad, e, hc⟩ := h.2.2 (by omega)
 obtain ⟨c, hl, hK, hcell⟩ := hc i xs[i] (List.getElem?_eq_getElem hi)
 match c, hl, hK, hcell with
 | [v], _, hK, hcell => exact ⟨ad, v, e, by have := hcell 0 v rfl; rwa [hs, Nat.mul_one, Nat.add_zero] at this, hK⟩
 | [], hl, _, _ => simp [hs] at hl
 | _ :: _ :: _, hl, _, _ => simp [hs] at hl

set_option maxHeartbeats 2000000 in
theorem idx_rows {α : Type} {d : Kd α} (hs : d.sz = 1) (g : Nat) (lb : Array Value) (eg : ∀ args w, (callFunc g args).run Tryz.prog w = .ok (.enter g args) w) (p : α → Bool) (ok : α → Prop) (A : Option Addr) (c : Nat) (xs : List α) (w : World)
  (hC : d.C w A xs.length xs) (hok : ∀ x ∈ xs, ok x) (hp : PredB Tryz.prog g lb d ok p w) :
  Calls Tryz.prog 65 #[.slice A xs.length c, .func (.func g) #[] lb] w fun e w' => (∃ r, e = .returned (.int .i64 r) ∧ IdxPost p xs r) ∧ Below w.heap.size w w' := by
 have hbig : xs.length ≤ 9223372036854775807 := hC.2.1
 have HC := Aside0.mk hC
 have HP := Aside0.mk hp
 have HO := Aside0.mk hok
 clear hC hp hok
 go_enter Tryz.func65, Tryz.ntmps65
 go_wp2
 go_loopg [5, 8] xs.length (fun gg _ s8 wr => ∃ kk : Nat, kk ≤ xs.length ∧ xs.length - kk ≤ gg ∧ s8 = .int .i64 kk ∧ Aside0 (Below w.heap.size w wr) ∧ Aside0 (∀ (j : Nat) (hj : j < xs.length), j < kk → p xs[j] = false))
 case atStart => exact ⟨0, Nat.zero_le _, by omega, rfl, ⟨Below.refl _ w⟩, ⟨fun j _ hj => absurd hj (Nat.not_lt_zero _)⟩⟩
 case round =>
  obtain ⟨kk, hkk, hg, rfl, BW, AA⟩ := hrel
  by_cases hlt : kk < xs.length
  ·
   have hltz : (kk : Int) < (xs.length : Int) := by omega
   obtain ⟨ad, v, rfl, hcell, hK⟩ := elem_at hs HC.out kk hlt
   have l2 : wr.cell? (ad.add kk) = some v := pw_cell_below BW.out hcell
   have hcall := HP.out wr xs[kk] v BW.out (HO.out _ (List.getElem_mem hlt)) (d.K_below BW.out hK)
   clear hcell hK
   cases hq : p xs[kk] with
   | true =>
    rw [hq] at hcall
    have HQ := Aside0.mk hq
    clear hq
    go_wp2_with (go_at_fn g; refine hcall.mono ?_; rintro e w' ⟨rfl, hb'⟩)
    go_ret
    exact ⟨⟨_, rfl, .inr ⟨kk, rfl, hlt, HQ.out, fun j hj => AA.out j (by omega) hj⟩⟩, below_then BW.out BW.out.size hb'⟩
   | false =>
    rw [hq] at hcall
    have HQ := Aside0.mk hq
    clear hq
    go_wp2_with (go_at_fn g; refine hcall.mono ?_; rintro e w' ⟨rfl, hb'⟩)
    go_roundg (xs.length - (kk + 1))
    case measure => omega
    case rel =>
     refine ⟨kk + 1, by omega, by omega, by go_num, ⟨below_then BW.out BW.out.size hb'⟩, ⟨fun j hj hj' => ?_⟩⟩
     by_cases e : j = kk
     ·
      subst e
      exact HQ.out
     ·
      exact AA.out j hj (by omega)
  ·
   have hltz : ¬ (kk : Int) < (xs.length : Int) := by omega
   obtain rfl : kk = xs.length := by omega
   go_wp2
   go_ret
   refine ⟨⟨_, rfl, .inl ⟨rfl, fun x hx => ?_⟩⟩, BW.out⟩
   obtain ⟨j, hj, rfl⟩ := List.mem_iff_getElem.1 hx
   exact AA.out j hj hj

set_option maxHeartbeats 1000000 in
theorem contains_rows {α : Type} {d : Kd α} (hs : d.sz = 1) (g : Nat) (lb : Array Value) (eg : ∀ args w, (callFunc g args).run Tryz.prog w = .ok (.enter g args) w) (p : α → Bool) (ok : α → Prop) (A : Option Addr) (c : Nat) (xs : List α) (w : World)
  (hC : d.C w A xs.length xs) (hok : ∀ x ∈ xs, ok x) (hp : PredB Tryz.prog g lb d ok p w) :
  Calls Tryz.prog 51 #[.slice A xs.length c, .func (.func g) #[] lb] w fun e w' => e = .returned (.bool (xs.any p)) ∧ Below w.heap.size w w' := by
 have H := idx_rows hs g lb eg p ok A c xs w hC hok hp
 clear hC hok hp
 go_enter Tryz.func51, Tryz.ntmps51
 go_wp2_with (go_at_call 65; refine H.mono ?_; rintro e w' ⟨⟨r, rfl, hr⟩, hb⟩)
 go_ret
 exact ⟨by rw [← hr.any]; rfl, hb⟩

end Go.Proofs.YtgemfighmnnmeaaGreat.Idx

namespace Go.Proofs.YtgemfighmnnmeaaGreat.Opens
open Go.RowKit Go.Proofs.YtgemfighmnnmeaaGreatW.PrintWords Go.Proofs.YtgemfighmnnmeaaGreatW.PrintLast Go.Proofs.YtgemfighmnnmeaaGreatW.PrintMore Go.Proofs.YtgemfighmnnmeaaGreat.G Go.Proofs.YtgemfighmnnmeaaGreat.Fam Go.Proofs.YtgemfighmnnmeaaGreat.Bits Go.Proofs.YtgemfighmnnmeaaGreat.Idx
set_option linter.unusedVariables false
set_option linter.unusedSimpArgs false

/-- Groups of at most seven holders. -/
def Small (g : List Int) : Prop := ∀ x ∈ g, 0 ≤ x ∧ x < 7
/-- Groups that are all small and short. -/
def Smalls (gs : List (List Int)) : Prop := ∀ g ∈ gs, Small g

theorem crowdOf_calls (A : Option Addr) (c : Nat) (g : List Int) (w : World) (hC : Kd.C (Kd.int .i64) w A g.length g) (hc : g.length ≤ c) (hg : Small g) :
  Calls Tryz.prog 33 #[.slice A g.length c] w fun e w' => e = .returned (.int .u64 ((bitsN g : Nat) : Int)) ∧ ∃ n, w' = w.drewN n := by
 exact (impl_crowdOf.calls (g.length + 1) A c g _ w hC hc (crowdOf_is g _ hC.2.1 hg (by omega))).mono fun e w' ⟨he, hd⟩ => ⟨he, hd.out⟩

set_option maxHeartbeats 1000000 in
theorem closure (B : Nat) (c : Nat) (hc : c < 128) (A : Option Addr) (cap : Nat) (g : List Int) (W : World) (hB : W.cell? ⟨B, 0, none⟩ = some (.int .u64 (c : Int))) (hg : Small g) (hC : Kd.C (Kd.int .i64) W A g.length g) (hcap : g.length ≤ cap) :
  Calls Tryz.prog 52 #[.slice A g.length cap, .pointer (some ⟨B, 0, none⟩)] W fun e w' => e = .returned (.bool (decide (c &&& bitsN g = bitsN g))) ∧ Below W.heap.size W w' := by
 have hb : bitsN g < 128 := by have := bitsN_lt (n := 7) (g := g) hg; simpa using this
 have H1 := fun n => crowdOf_calls A cap g (W.drewN n) (Kd.C_drewN hC n) hcap hg
 have H2 := fun W => impl_crowd_contains.calls (c : Int) ((bitsN g : Nat) : Int) _ W (contains_is hc hb)
 have HC := Aside0.mk hC
 clear hC hb
 generalize decide (c &&& bitsN g = bitsN g) = r at H2 ⊢
 generalize ((bitsN g : Nat) : Int) = b at H1 H2
 go_enter Tryz.func52, Tryz.ntmps52
 go_wp2
 go_quiet (first | (go_at_call 33; exact Calls.quiet_of (H1 _)) | (go_at_call 46; exact Calls.quiet_of ((H2 _).mono fun e w' ⟨he, hd⟩ => ⟨he, hd.out⟩)))
 go_wp2
 go_ret
 exact ⟨rfl, by repeat (first | exact Below.refl _ _ | apply pw_below_drewN)⟩

/-- The predicate that opens hands over. -/
theorem pred (B : Nat) (c : Nat) (hc : c < 128) (w : World) (hB : w.cell? ⟨B, 0, none⟩ = some (.int .u64 (c : Int))) :
  PredB Tryz.prog 52 #[.pointer (some ⟨B, 0, none⟩)] (Kd.slice 2 (Kd.int .i64)) Small (fun g => decide (c &&& bitsN g = bitsN g)) w := by
 intro W g v hb hg hK
 obtain ⟨A, cap, e, hcap, hC⟩ := hK
 obtain rfl : v = .slice A g.length cap := by simpa using e
 exact closure B c hc A cap g W (pw_cell_below hb hB) hg hC hcap

set_option maxHeartbeats 1000000 in
theorem opens_calls (n : Int) (A : Option Addr) (cap : Nat) (gs : List (List Int)) (c : Nat) (w : World) (hC : Kd.C (Kd.slice 2 (Kd.int .i64)) w A gs.length gs) (hcap : gs.length ≤ cap) (hg : Smalls gs) (hc : c < 128) :
  Calls Tryz.prog 30 #[.agg #[.int .i64 n, .slice A gs.length cap], .int .u64 (c : Int)] w fun e w' => e = .returned (.bool (openN gs c)) ∧ Below w.heap.size w w' := by
 have eg : ∀ args w, (callFunc 52 args).run Tryz.prog w = .ok (.enter 52 args) w := enters_of Tryz.func52 (by kernel_rfl) rfl
 have hu := Tryz.underlying26
 have HC := Aside0.mk hC
 clear hC
 go_enter Tryz.func30, Tryz.ntmps30
 go_wp2_with (go_at_call 51; refine (contains_rows (d := Kd.slice 2 (Kd.int .i64)) rfl 52 _ eg (fun g => decide (c &&& bitsN g = bitsN g)) Small A cap gs _ ?c1 hg ?c2).mono ?_; (case c1 => exact Kd.C_alloc (Kd.C_alloc HC.out _) _); (case c2 => exact pred _ c hc _ (by simp)); rintro e w' ⟨rfl, hb⟩)
 go_ret
 exact ⟨rfl, below_then (below_alloc (below_alloc (Below.refl _ _) _) _) (by simp; omega) hb⟩

instance (gs : List (List Int)) : Decidable (Smalls gs) := by unfold Smalls Small; exact inferInstance
def opensF (gs : List (List Int)) (c : Int) : Option Bool := if Smalls gs ∧ 0 ≤ c ∧ c < 128 then some (openN gs c.toNat) else none
theorem opensF_calls (n : Int) (A : Option Addr) (cap : Nat) (gs : List (List Int)) (c : Int) (r : Bool) (w : World) (hC : Kd.C (Kd.slice 2 (Kd.int .i64)) w A gs.length gs) (hcap : gs.length ≤ cap) (h : opensF gs c = some r) :
  Calls Tryz.prog 30 #[.agg #[.int .i64 n, .slice A gs.length cap], .int .u64 c] w fun e w' => e = .returned (.bool r) ∧ Below w.heap.size w w' := by
 unfold opensF at h
 split at h
 ·
  rename_i hh
  obtain rfl := Option.some.inj h
  have := opens_calls n A cap gs c.toNat w hC hcap hh.1 (by omega)
  rwa [show ((c.toNat : Nat) : Int) = c by omega] at this
 ·
  cases h

end Go.Proofs.YtgemfighmnnmeaaGreat.Opens

namespace Go.Proofs.YtgemfighmnnmeaaGreat.Valid
open Go.RowKit Go.Proofs.YtgemfighmnnmeaaGreatW.PrintWords Go.Proofs.YtgemfighmnnmeaaGreatW.PrintMore Go.Proofs.YtgemfighmnnmeaaGreat.G Go.Proofs.YtgemfighmnnmeaaGreat.Fam Go.Proofs.YtgemfighmnnmeaaGreat.Bits Go.Proofs.YtgemfighmnnmeaaGreat.Loops
set_option linter.unusedVariables false

/-- Two groups, in order, none of which has all holders of the other one. -/
def Apart2 (a b : List Int) : Prop := cmpL a b < 0 ∧ ¬ (bitsN a &&& bitsN b = bitsN b) ∧ ¬ (bitsN b &&& bitsN a = bitsN a)
instance (a b : List Int) : Decidable (Apart2 a b) := by unfold Apart2; exact inferInstance
def ValidF (n : Int) (gs : List (List Int)) : Prop := (1 ≤ n ∧ n ≤ 7) ∧ (∀ g ∈ gs, isGroupN n.toNat g) ∧ gs.Pairwise Apart2
instance (n : Int) (gs : List (List Int)) : Decidable (ValidF n gs) := by unfold ValidF; exact inferInstance

theorem rdL (xs : List (List Int)) (n : Nat) : rd_L1 xs (n : Int) = xs.getD n [] := by simp [rd_L1]
theorem getDg {gs : List (List Int)} {i : Nat} (hi : i < gs.length) : gs.getD i [] = gs[i] := by simp [List.getD, List.getElem?_eq_getElem hi]

theorem small_of {n : Nat} (hn : n ≤ 7) {g : List Int} (h : isGroupN n g) : ∀ x ∈ g, 0 ≤ x ∧ x < 7 := fun x hx => by have := h.1 x hx; omega
theorem bits128 {g : List Int} (h : ∀ x ∈ g, 0 ≤ x ∧ x < 7) : bitsN g < 128 := by have := bitsN_lt (n := 7) (g := g) h; simpa using this

/-- What is asked of group number j. -/
def GoodAt (n : Nat) (gs : List (List Int)) (j : Nat) : Prop :=
 isGroupN n (gs.getD j []) ∧ (0 < j → cmpL (gs.getD (j - 1) []) (gs.getD j []) < 0) ∧ ∀ m, m < j → ¬ (bitsN (gs.getD m []) &&& bitsN (gs.getD j []) = bitsN (gs.getD j [])) ∧ ¬ (bitsN (gs.getD j []) &&& bitsN (gs.getD m []) = bitsN (gs.getD m []))

/-- The loop over the groups ahead of group i. -/
theorem inner_loop (n : Nat) (hn : n ≤ 7) (gs : List (List Int)) (hl : gs.length ≤ 9223372036854775807) (i : Nat) (hi : i < gs.length) (hg : ∀ m, m ≤ i → isGroupN n (gs.getD m [])) (hgl : ∀ g ∈ gs, g.length ≤ 9223372036854775807) (b : Bool)
  (hnext : Ev (fun k => impl_ValidFamily.l0 k gs (gs.length : Int) (wrap64 ((i : Int) + 1)) (n : Int) gs) b) :
  ∀ (d m : Nat), m ≤ i → i - m = d →
  Ev (fun k => impl_ValidFamily.l1 k (gs.getD i []) gs (gs.length : Int) (i : Int) (gs.take i) ((gs.take i).length : Int) (m : Int) (n : Int) gs)
   (b && decide (∀ j, j < i → m ≤ j → ¬ (bitsN (gs.getD j []) &&& bitsN (gs.getD i []) = bitsN (gs.getD i [])) ∧ ¬ (bitsN (gs.getD i []) &&& bitsN (gs.getD j []) = bitsN (gs.getD j [])))) := by
 have htl : (gs.take i).length = i := by rw [List.length_take]; omega
 intro d
 induction d with
 | zero =>
  intro m hm hd
  obtain rfl : m = i := by omega
  refine Ev.step (fun k => by simp only [impl_ValidFamily.l1]; rw [if_neg (by omega)]) ?_
  rw [show decide _ = true from decide_eq_true (fun j h1 h2 => by omega), Bool.and_true]
  exact hnext
 | succ d ih =>
  intro m hm hd
  have hlt : m < i := by omega
  have hm' : (gs.take i).getD m [] = gs.getD m [] := by simp [List.getD, List.getElem?_take_of_lt hlt]
  have s1 := small_of hn (hg m (by omega))
  have s2 := small_of hn (hg i (Nat.le_refl _))
  have l1 : (gs.getD m []).length ≤ 9223372036854775807 := by rw [getDg (by omega)]; exact hgl _ (List.getElem_mem _)
  have l2 : (gs.getD i []).length ≤ 9223372036854775807 := by rw [getDg (by omega)]; exact hgl _ (List.getElem_mem _)
  refine Ev.step (f := fun k => (impl_crowdOf.f k (gs.getD m [])).bind fun t121 => (impl_crowdOf.f k (gs.getD i [])).bind fun t122 => (impl_crowd_contains.f t121 t122).bind fun t123 => if t123 = true then some false else (impl_crowd_contains.f t122 t121).bind fun t124 => if t124 = true then some false else impl_ValidFamily.l1 k (gs.getD i []) gs (gs.length : Int) (i : Int) (gs.take i) ((gs.take i).length : Int) (wrap64 ((m : Int) + 1)) (n : Int) gs)
   (fun k => by simp only [impl_ValidFamily.l1]; rw [if_pos (by omega), if_pos (by omega), if_pos (by omega), rdL, hm']) ?_
  refine Ev.bind (a := ((bitsN (gs.getD m []) : Nat) : Int)) ⟨(gs.getD m []).length + 1, fun k hk => crowdOf_is _ k l1 s1 (by omega)⟩ ?_
  refine Ev.bind (a := ((bitsN (gs.getD i []) : Nat) : Int)) ⟨(gs.getD i []).length + 1, fun k hk => crowdOf_is _ k l2 s2 (by omega)⟩ ?_
  rw [contains_is (bits128 s1) (bits128 s2), contains_is (bits128 s2) (bits128 s1)]
  simp only [Option.bind_some, decide_eq_true_eq]
  by_cases h1 : bitsN (gs.getD m []) &&& bitsN (gs.getD i []) = bitsN (gs.getD i [])
  ·
   rw [show decide _ = false from decide_eq_false (fun h => (h m hlt (Nat.le_refl _)).1 h1), Bool.and_false]
   exact ⟨0, fun k _ => if_pos h1⟩
  ·
   by_cases h2 : bitsN (gs.getD i []) &&& bitsN (gs.getD m []) = bitsN (gs.getD m [])
   ·
    rw [show decide _ = false from decide_eq_false (fun h => (h m hlt (Nat.le_refl _)).2 h2), Bool.and_false]
    exact ⟨0, fun k _ => by simp only [if_neg h1, if_pos h2]⟩
   ·
    have := ih (m + 1) (by omega) (by omega)
    rw [show ((m + 1 : Nat) : Int) = wrap64 ((m : Int) + 1) from by rw [wrap_id (by omega) (by omega)]; omega] at this
    rw [show decide (∀ j, j < i → m ≤ j → ¬ (bitsN (gs.getD j []) &&& bitsN (gs.getD i []) = bitsN (gs.getD i [])) ∧ ¬ (bitsN (gs.getD i []) &&& bitsN (gs.getD j []) = bitsN (gs.getD j []))) = decide (∀ j, j < i → m + 1 ≤ j → ¬ (bitsN (gs.getD j []) &&& bitsN (gs.getD i []) = bitsN (gs.getD i [])) ∧ ¬ (bitsN (gs.getD i []) &&& bitsN (gs.getD j []) = bitsN (gs.getD j []))) from decide_eq_decide.2 ⟨fun h j hji hj => h j hji (by omega), fun h j hji hj => by
     by_cases e : j = m
     ·
      subst e; exact ⟨h1, h2⟩
     ·
      exact h j hji (by omega)⟩]
    exact this.congr (fun k => by simp only [if_neg h1, if_neg h2])

theorem outer_loop (n : Nat) (hn : n ≤ 7) (gs : List (List Int)) (hl : gs.length ≤ 9223372036854775807) (hgl : ∀ g ∈ gs, g.length ≤ 9223372036854775807) :
  ∀ (d i : Nat), i ≤ gs.length → gs.length - i = d → (∀ m, m < i → isGroupN n (gs.getD m [])) →
  ∃ b, Ev (fun k => impl_ValidFamily.l0 k gs (gs.length : Int) (i : Int) (n : Int) gs) b ∧ (b = true ↔ ∀ j, i ≤ j → j < gs.length → GoodAt n gs j) := by
 intro d
 induction d with
 | zero =>
  intro i hi hd hg
  obtain rfl : i = gs.length := by omega
  refine ⟨true, Ev.step (fun k => by simp only [impl_ValidFamily.l0]; rw [if_neg (by omega)]) (Ev.now true), ?_⟩
  simp only [true_iff]
  intro j h1 h2
  omega
 | succ d ih =>
  intro i hi hd hg
  have hlt : i < gs.length := by omega
  have l2 : (gs.getD i []).length ≤ 9223372036854775807 := by rw [getDg (by omega)]; exact hgl _ (List.getElem_mem _)
  have hE1 : Ev (fun k => impl_isGroup.f k (n : Int) (gs.getD i [])) (decide (isGroupN n (gs.getD i []))) := ⟨(gs.getD i []).length + 1, fun k hk => isGroup_is n _ k (by omega) l2 (by omega)⟩
  by_cases h1 : isGroupN n (gs.getD i [])
  ·
   obtain ⟨b, hb, hb'⟩ := ih (i + 1) (by omega) (by omega) (fun m hm => by
    by_cases e : m = i
    ·
     subst e; exact h1
    ·
     exact hg m (by omega))
   rw [show ((i + 1 : Nat) : Int) = wrap64 ((i : Int) + 1) from by rw [wrap_id (by omega) (by omega)]; omega] at hb
   have hin := inner_loop n hn gs hl i hlt (fun m hm => by
    by_cases e : m = i
    ·
     subst e; exact h1
    ·
     exact hg m (by omega)) hgl b hb i 0 (by omega) (by omega)
   have hj1 : Ev (fun k => impl_ValidFamily.j1 k (i : Int) (gs.getD i []) gs (gs.length : Int) (i : Int) false (n : Int) gs) _ :=
    Ev.step (f := fun k => impl_ValidFamily.l1 k (gs.getD i []) gs (gs.length : Int) (i : Int) (gs.take i) ((gs.take i).length : Int) ((0 : Nat) : Int) (n : Int) gs) (fun k => by
     simp only [impl_ValidFamily.j1]
     rw [if_neg (by simp), if_pos (by omega), if_pos (by omega)]
     rfl) hin
   by_cases h0 : 0 < i
   ·
    have l3 : (gs.getD (i - 1) []).length ≤ 9223372036854775807 := by rw [getDg (by omega)]; exact hgl _ (List.getElem_mem _)
    have hE2 : Ev (fun k => slices_Compare_int64_int64.f k (gs.getD (i - 1) []) (gs.getD i [])) (cmpL (gs.getD (i - 1) []) (gs.getD i [])) := ⟨(gs.getD (i - 1) []).length + 1, fun k hk => compare_is _ _ k l3 (by omega)⟩
    have hp : wrap64 ((i : Int) - 1) = ((i - 1 : Nat) : Int) := by rw [wrap_id (by omega) (by omega)]; omega
    have step : ∀ k, impl_ValidFamily.l0 (k + 1) gs (gs.length : Int) (i : Int) (n : Int) gs = (impl_isGroup.f k (n : Int) (gs.getD i [])).bind fun t113 => if t113 = true then (slices_Compare_int64_int64.f k (gs.getD (i - 1) []) (gs.getD i [])).bind fun t115 => impl_ValidFamily.j1 k (i : Int) (gs.getD i []) gs (gs.length : Int) (i : Int) (decide (t115 ≥ 0)) (n : Int) gs else impl_ValidFamily.j1 k (i : Int) (gs.getD i []) gs (gs.length : Int) (i : Int) true (n : Int) gs := fun k => by
     simp only [impl_ValidFamily.l0]
     rw [if_pos (by omega), if_pos (by omega), if_pos (by omega), rdL, hp, rdL]
     congr 1
     funext t
     rw [if_pos (show (i : Int) > 0 by omega), if_pos (show (0 : Int) ≤ ((i - 1 : Nat) : Int) by omega), if_pos (show ((i - 1 : Nat) : Int) < (gs.length : Int) by omega)]
    by_cases hc : cmpL (gs.getD (i - 1) []) (gs.getD i []) < 0
    ·
     refine ⟨b && decide (∀ j, j < i → 0 ≤ j → ¬ (bitsN (gs.getD j []) &&& bitsN (gs.getD i []) = bitsN (gs.getD i [])) ∧ ¬ (bitsN (gs.getD i []) &&& bitsN (gs.getD j []) = bitsN (gs.getD j []))), Ev.step step (Ev.bind hE1 ?_), ?_⟩
     ·
      rw [decide_eq_true h1]
      simp only [if_true]
      refine Ev.bind hE2 ?_
      rw [show decide (cmpL (gs.getD (i - 1) []) (gs.getD i []) ≥ 0) = false from decide_eq_false (by omega)]
      exact hj1
     ·
      rw [Bool.and_eq_true, hb', decide_eq_true_iff]
      constructor
      ·
       rintro ⟨h2, h3⟩ j hj hjl
       by_cases e : j = i
       ·
        subst e; exact ⟨h1, fun _ => hc, fun m hm => h3 m hm (by omega)⟩
       ·
        exact h2 j (by omega) hjl
      ·
       intro h2
       exact ⟨fun j hj hjl => h2 j (by omega) hjl, fun j hj _ => (h2 i (Nat.le_refl _) hlt).2.2 j hj⟩
    ·
     refine ⟨false, Ev.step step (Ev.bind hE1 ?_), ?_⟩
     ·
      rw [decide_eq_true h1]
      simp only [if_true]
      refine Ev.bind hE2 ?_
      rw [show decide (cmpL (gs.getD (i - 1) []) (gs.getD i []) ≥ 0) = true from decide_eq_true (by omega)]
      exact Ev.step (fun k => by simp only [impl_ValidFamily.j1]; rw [if_pos trivial]) (Ev.now false)
     ·
      simp only [Bool.false_eq_true, false_iff]
      intro h
      exact hc ((h i (Nat.le_refl _) hlt).2.1 h0)
   ·
    have step : ∀ k, impl_ValidFamily.l0 (k + 1) gs (gs.length : Int) (i : Int) (n : Int) gs = (impl_isGroup.f k (n : Int) (gs.getD i [])).bind fun t113 => if t113 = true then impl_ValidFamily.j1 k (i : Int) (gs.getD i []) gs (gs.length : Int) (i : Int) false (n : Int) gs else impl_ValidFamily.j1 k (i : Int) (gs.getD i []) gs (gs.length : Int) (i : Int) true (n : Int) gs := fun k => by
     simp only [impl_ValidFamily.l0]
     rw [if_pos (by omega), if_pos (by omega), if_pos (by omega), rdL]
     congr 1
     funext t
     rw [if_neg (show ¬ (i : Int) > 0 by omega)]
    refine ⟨b && decide (∀ j, j < i → 0 ≤ j → ¬ (bitsN (gs.getD j []) &&& bitsN (gs.getD i []) = bitsN (gs.getD i [])) ∧ ¬ (bitsN (gs.getD i []) &&& bitsN (gs.getD j []) = bitsN (gs.getD j []))), Ev.step step (Ev.bind hE1 ?_), ?_⟩
    ·
     rw [decide_eq_true h1]
     simp only [if_true]
     exact hj1
    ·
     rw [Bool.and_eq_true, hb', decide_eq_true_iff]
     constructor
     ·
      rintro ⟨h2, h3⟩ j hj hjl
      by_cases e : j = i
      ·
       subst e; exact ⟨h1, fun h => absurd h h0, fun m hm => h3 m hm (by omega)⟩
      ·
       exact h2 j (by omega) hjl
     ·
      intro h2
      exact ⟨fun j hj hjl => h2 j (by omega) hjl, fun j hj _ => (h2 i (Nat.le_refl _) hlt).2.2 j hj⟩
  ·
   refine ⟨false, Ev.step (f := fun k => (impl_isGroup.f k (n : Int) (gs.getD i [])).bind fun t113 => if t113 = true then (if (i : Int) > 0 then (if 0 ≤ (wrap64 ((i : Int) - 1)) then (if (wrap64 ((i : Int) - 1)) < (gs.length : Int) then ((slices_Compare_int64_int64.f k (rd_L1 gs (wrap64 ((i : Int) - 1))) (gs.getD i [])).bind fun t115 => (impl_ValidFamily.j1 k (i : Int) (gs.getD i []) gs (gs.length : Int) (i : Int) (decide (t115 ≥ 0)) (n : Int) gs)) else (none)) else (none)) else (impl_ValidFamily.j1 k (i : Int) (gs.getD i []) gs (gs.length : Int) (i : Int) false (n : Int) gs)) else impl_ValidFamily.j1 k (i : Int) (gs.getD i []) gs (gs.length : Int) (i : Int) true (n : Int) gs)
    (fun k => by simp only [impl_ValidFamily.l0]; rw [if_pos (by omega), if_pos (by omega), if_pos (by omega), rdL]) (Ev.bind hE1 ?_), ?_⟩
   ·
    rw [decide_eq_false h1]
    simp only [Bool.false_eq_true, if_false]
    exact Ev.step (fun k => by simp only [impl_ValidFamily.j1]; rw [if_pos trivial]) (Ev.now false)
   ·
    simp only [Bool.false_eq_true, false_iff]
    intro h
    exact h1 (h i (Nat.le_refl _) hlt).1

theorem goods {n : Nat} {gs : List (List Int)} : (∀ j, 0 ≤ j → j < gs.length → GoodAt n gs j) ↔ (∀ g ∈ gs, isGroupN n g) ∧ gs.Pairwise Apart2 := by
 constructor
 ·
  intro h
  have hadj : ∀ j i, j < gs.length → i < j → cmpL (gs.getD i []) (gs.getD j []) < 0 := by
   intro j
   induction j with
   | zero => intro i _ hi; omega
   | succ j ih =>
    intro i hj hij
    have h1 := (h (j + 1) (by omega) hj).2.1 (by omega)
    simp only [Nat.add_sub_cancel] at h1
    by_cases e : i = j
    ·
     subst e; exact h1
    ·
     exact cmpL_trans _ _ _ (ih i (by omega) (by omega)) h1
  refine ⟨fun g hg => ?_, ?_⟩
  ·
   obtain ⟨i, hi, rfl⟩ := List.mem_iff_getElem.1 hg
   have := (h i (by omega) hi).1
   rwa [getDg hi] at this
  ·
   rw [List.pairwise_iff_getElem]
   intro i j hi hj hij
   have h1 := hadj j i hj hij
   have h2 := (h j (by omega) hj).2.2 i hij
   rw [getDg hi, getDg hj] at *
   exact ⟨h1, h2⟩
 ·
  rintro ⟨h1, h2⟩ j _ hj
  rw [List.pairwise_iff_getElem] at h2
  refine ⟨by rw [getDg hj]; exact h1 _ (List.getElem_mem hj), fun h0 => ?_, fun m hm => ?_⟩
  ·
   rw [getDg hj, getDg (show j - 1 < gs.length by omega)]
   exact (h2 (j - 1) j (by omega) hj (by omega)).1
  ·
   rw [getDg hj, getDg (show m < gs.length by omega)]
   exact (h2 m j (by omega) hj hm).2

theorem valid_is (n : Int) (gs : List (List Int)) (hl : gs.length ≤ 9223372036854775807) (hgl : ∀ g ∈ gs, g.length ≤ 9223372036854775807) : Ev (fun k => impl_ValidFamily.f k n gs) (decide (ValidF n gs)) := by
 unfold impl_ValidFamily.f
 rw [within_is]
 simp only [Option.bind_some, decide_eq_true_eq]
 by_cases h : 1 ≤ n ∧ n ≤ 7
 ·
  obtain ⟨b, hb, hb'⟩ := outer_loop n.toNat (by omega) gs hl hgl gs.length 0 (by omega) (by omega) (fun m hm => by omega)
  rw [show ((n.toNat : Nat) : Int) = n by omega] at hb
  have : b = decide (ValidF n gs) := by
   rw [Bool.eq_iff_iff, hb', goods, decide_eq_true_iff]
   unfold ValidF
   exact ⟨fun h2 => ⟨h, h2⟩, fun h2 => h2.2⟩
  rw [← this]
  exact hb.congr (fun k => by simp only [if_pos h]; rfl)
 ·
  rw [show decide (ValidF n gs) = false from decide_eq_false (fun h2 => h h2.1)]
  exact ⟨0, fun k _ => by simp only [if_neg h]⟩

end Go.Proofs.YtgemfighmnnmeaaGreat.Valid

namespace Go.Proofs.YtgemfighmnnmeaaGreat.FamLaw
open Go.Proofs.YtgemfighmnnmeaaGreat.Fam Go.Proofs.YtgemfighmnnmeaaGreat.Valid
set_option linter.unusedVariables false

/-- More holders never open less. -/
def Mono (n : Nat) (p : Nat → Bool) : Prop := ∀ c d, c < 2 ^ n → d < 2 ^ n → d &&& c = c → p c = true → p d = true

theorem lt_of_bit {n c h : Nat} (hc : c < 2 ^ n) (ht : c.testBit h = true) : h < n := by
 rcases Nat.lt_or_ge h n with h1 | h1
 ·
  exact h1
 ·
  have := Nat.testBit_lt_two_pow (x := c) (i := h) (Nat.lt_of_lt_of_le hc (Nat.pow_le_pow_right (by omega) h1))
  rw [this] at ht; cases ht
theorem two_pow_le {n : Nat} (hn : n ≤ 7) : 2 ^ n ≤ 128 := by have := Nat.pow_le_pow_right (n := 2) (by omega) hn; simpa using this
theorem drop_lt {n c h : Nat} (hc : c < 2 ^ n) (ht : c.testBit h = true) : c ^^^ 1 <<< h < 2 ^ n := by
 apply Nat.xor_lt_two_pow hc
 rw [Nat.one_shiftLeft]
 exact Nat.pow_lt_pow_right (by omega) (lt_of_bit hc ht)
theorem drop_test {c h i : Nat} : (c ^^^ 1 <<< h).testBit i = (c.testBit i != decide (h = i)) := by
 rw [Nat.testBit_xor, Nat.one_shiftLeft, Nat.testBit_two_pow]
theorem drop_sub {n c h : Nat} (hn : n ≤ 7) (hc : c < 2 ^ n) (ht : c.testBit h = true) : c &&& (c ^^^ 1 <<< h) = c ^^^ 1 <<< h := by
 rw [sub_iff hn (drop_lt hc ht)]
 intro i _ hi
 rw [drop_test] at hi
 by_cases e : h = i
 ·
  subst e; exact ht
 ·
  simpa [e] using hi
theorem drop_lt_self {n c h : Nat} (hn : n ≤ 7) (hc : c < 2 ^ n) (ht : c.testBit h = true) : c ^^^ 1 <<< h < c := by
 have h1 : c &&& (c ^^^ 1 <<< h) ≤ c := Nat.and_le_left
 rw [drop_sub hn hc ht] at h1
 rcases Nat.lt_or_eq_of_le h1 with h2 | h2
 ·
  exact h2
 ·
  have h3 : (c ^^^ 1 <<< h).testBit h = c.testBit h := by rw [h2]
  rw [drop_test, ht] at h3
  simp at h3
theorem sub_trans {n a b c : Nat} (hn : n ≤ 7) (ha : a < 2 ^ n) (hb : b < 2 ^ n) (h1 : b &&& a = a) (h2 : c &&& b = b) : c &&& a = a := by
 rw [sub_iff hn ha] at *
 rw [sub_iff hn hb] at h2
 exact fun i hi ht => h2 i hi (h1 i hi ht)

theorem leastN_iff {n : Nat} {p : Nat → Bool} {c : Nat} : leastN n p c = true ↔ p c = true ∧ ∀ h, h < n → c.testBit h = true → p (c ^^^ 1 <<< h) = false := by
 unfold leastN
 rw [Bool.and_eq_true, List.all_eq_true]
 constructor
 ·
  rintro ⟨h1, h2⟩
  refine ⟨h1, fun h hn ht => ?_⟩
  have := h2 h (List.mem_range.2 hn)
  rw [ht] at this
  simpa using this
 ·
  rintro ⟨h1, h2⟩
  refine ⟨h1, fun h hn => ?_⟩
  cases ht : c.testBit h with
  | false => simp
  | true => rw [h2 h (List.mem_range.1 hn) ht]; simp
/-- Below each set that opens lies a least one. -/
theorem least_below {n : Nat} (hn : n ≤ 7) (p : Nat → Bool) : ∀ c, c < 2 ^ n → p c = true → ∃ m, m < 2 ^ n ∧ c &&& m = m ∧ leastN n p m = true := by
 intro c
 induction c using Nat.strongRecOn with
 | _ c ih =>
  intro hc hp
  by_cases hl : leastN n p c = true
  ·
   exact ⟨c, hc, Nat.and_self c, hl⟩
  ·
   rw [leastN_iff] at hl
   have : ∃ h, h < n ∧ c.testBit h = true ∧ p (c ^^^ 1 <<< h) = true := by
    refine Classical.byContradiction fun hno => hl ⟨hp, fun h hh ht => ?_⟩
    cases hq : p (c ^^^ 1 <<< h) with
    | false => rfl
    | true => exact absurd ⟨h, hh, ht, hq⟩ hno
   obtain ⟨h, hh, ht, hq⟩ := this
   obtain ⟨m, hm, hs, hl⟩ := ih _ (drop_lt_self hn hc ht) (drop_lt hc ht) hq
   exact ⟨m, hm, sub_trans hn hm (drop_lt hc ht) hs (drop_sub hn hc ht), hl⟩
theorem openN_iff {gs : List (List Int)} {c : Nat} : openN gs c = true ↔ ∃ g ∈ gs, c &&& bitsN g = bitsN g := by
 unfold openN
 rw [List.any_eq_true]
 simp
theorem openN_mono {n : Nat} (hn : n ≤ 7) {gs : List (List Int)} (hg : ∀ g ∈ gs, isGroupN n g) : Mono n (openN gs) := by
 intro c d hc hd hs hp
 rw [openN_iff] at *
 obtain ⟨g, hgm, h⟩ := hp
 exact ⟨g, hgm, sub_trans hn (bitsN_lt (hg g hgm).1) hc h hs⟩
theorem openN_famN {n : Nat} (hn : n ≤ 7) {p : Nat → Bool} (hm : Mono n p) {c : Nat} (hc : c < 2 ^ n) : openN (famN n p) c = p c := by
 have h7 := two_pow_le hn
 rw [Bool.eq_iff_iff, openN_iff]
 constructor
 ·
  rintro ⟨g, hg, hs⟩
  obtain ⟨m, hm1, hl, rfl⟩ := mem_crowdsN.1 hg
  rw [bitsN_groupN (by omega)] at hs
  exact hm m c hm1 hc hs (leastN_iff.1 hl).1
 ·
  intro hp
  obtain ⟨m, hm1, hs, hl⟩ := least_below hn p c hc hp
  exact ⟨groupN m, mem_crowdsN.2 ⟨m, hm1, hl, rfl⟩, by rw [bitsN_groupN (by omega)]; exact hs⟩
theorem leastN_congr {n : Nat} {p q : Nat → Bool} (h : ∀ c, c < 2 ^ n → p c = q c) {c : Nat} (hc : c < 2 ^ n) : leastN n p c = leastN n q c := by
 rw [Bool.eq_iff_iff, leastN_iff, leastN_iff, h c hc]
 constructor
 ·
  rintro ⟨h1, h2⟩
  exact ⟨h1, fun i hi ht => by rw [← h _ (drop_lt hc ht)]; exact h2 i hi ht⟩
 ·
  rintro ⟨h1, h2⟩
  exact ⟨h1, fun i hi ht => by rw [h _ (drop_lt hc ht)]; exact h2 i hi ht⟩
theorem crowdsN_congr {n : Nat} {p q : Nat → Bool} (h : ∀ c, c < 2 ^ n → p c = q c) : crowdsN n p = crowdsN n q := by
 unfold crowdsN
 rw [List.filter_congr (fun c hc => h c (List.mem_range.1 hc))]
theorem famN_congr {n : Nat} {p q : Nat → Bool} (h : ∀ c, c < 2 ^ n → p c = q c) : famN n p = famN n q := crowdsN_congr (fun c hc => leastN_congr h hc)

theorem nodup_crowdsN {n : Nat} (hn : n ≤ 7) (p : Nat → Bool) : (crowdsN n p).Nodup := by
 have h7 := two_pow_le hn
 unfold crowdsN
 rw [(sort_perm _).nodup_iff, List.nodup_iff_pairwise_ne, List.pairwise_map]
 refine List.Pairwise.imp_of_mem ?_ ((List.nodup_iff_pairwise_ne.1 (List.nodup_range (n := 2 ^ n))).filter p)
 intro a b ha hb hab e
 have ha' := List.mem_range.1 (List.mem_filter.1 ha).1
 have hb' := List.mem_range.1 (List.mem_filter.1 hb).1
 apply hab
 rw [← bitsN_groupN (c := a) (by omega), ← bitsN_groupN (c := b) (by omega), e]
theorem strict_of {l : List (List Int)} (h1 : l.Pairwise (fun a b => leL a b = true)) (h2 : l.Nodup) : l.Pairwise (fun a b => cmpL a b < 0) := by
 refine List.Pairwise.imp₂ (R := fun a b => leL a b = true) (S := fun a b => a ≠ b) ?_ h1 h2
 intro a b h1 h2
 have h3 := cmpL_range a b
 have h4 := cmpL_neg a b
 have h5 : ¬ cmpL b a < 0 := by simpa [leL] using h1
 have h6 : cmpL a b ≠ 0 := fun e => h2 (cmpL_zero a b e)
 omega
theorem crowdsN_strict {n : Nat} (hn : n ≤ 7) (p : Nat → Bool) : (crowdsN n p).Pairwise (fun a b => cmpL a b < 0) :=
 strict_of (by unfold crowdsN; exact sort_sorted _) (nodup_crowdsN hn p)

/-- No least set is within another one. -/
theorem least_apart {n : Nat} (hn : n ≤ 7) {p : Nat → Bool} (hm : Mono n p) {a b : Nat} (ha : a < 2 ^ n) (hb : b < 2 ^ n) (la : leastN n p a = true) (lb : leastN n p b = true) (hs : a &&& b = b) : a = b := by
 refine Classical.byContradiction fun hne => ?_
 have h1 := (sub_iff hn hb).1 hs
 have : ∃ h, h < n ∧ a.testBit h = true ∧ b.testBit h = false := by
  refine Classical.byContradiction fun hno => hne ?_
  apply Nat.eq_of_testBit_eq
  intro i
  cases hai : a.testBit i with
  | true =>
   cases hbi : b.testBit i with
   | true => rfl
   | false => exact absurd ⟨i, lt_of_bit ha hai, hai, hbi⟩ hno
  | false =>
   cases hbi : b.testBit i with
   | false => rfl
   | true => have := h1 i (lt_of_bit hb hbi) hbi; rw [hai] at this; cases this
 obtain ⟨h, hh, hat, hbt⟩ := this
 have h2 := (leastN_iff.1 la).2 h hh hat
 have h3 := hm b (a ^^^ 1 <<< h) hb (drop_lt ha hat) (by
  rw [sub_iff hn hb]
  intro i hi hbi
  rw [drop_test]
  by_cases e : h = i
  ·
   subst e; rw [hbt] at hbi; cases hbi
  ·
   simp [e, h1 i hi hbi]) (leastN_iff.1 lb).1
 rw [h2] at h3; cases h3
theorem famN_valid {n : Nat} (hn1 : 1 ≤ n) (hn : n ≤ 7) {p : Nat → Bool} (hm : Mono n p) : ValidF (n : Int) (famN n p) := by
 have h7 := two_pow_le hn
 refine ⟨by omega, fun g hg => ?_, ?_⟩
 ·
  obtain ⟨m, hm1, _, rfl⟩ := mem_crowdsN.1 hg
  rw [Int.toNat_natCast]
  exact groupN_is hn hm1
 ·
  refine (crowdsN_strict hn (leastN n p)).imp_of_mem ?_
  intro a b ha hb hab
  obtain ⟨x, hx, lx, rfl⟩ := mem_crowdsN.1 ha
  obtain ⟨y, hy, ly, rfl⟩ := mem_crowdsN.1 hb
  unfold Apart2
  rw [bitsN_groupN (by omega), bitsN_groupN (by omega)]
  refine ⟨hab, fun hs => ?_, fun hs => ?_⟩
  ·
   have := least_apart hn hm hx hy lx ly hs
   subst this
   rw [cmpL_self] at hab; omega
  ·
   have := least_apart hn hm hy hx ly lx hs
   subst this
   rw [cmpL_self] at hab; omega
/-- A valid family is that of its opening groups. -/
theorem famN_openN {n : Nat} (hn : n ≤ 7) {gs : List (List Int)} (h : ValidF (n : Int) gs) : famN n (openN gs) = gs := by
 have h7 := two_pow_le hn
 obtain ⟨_, hg, hp⟩ := h
 rw [Int.toNat_natCast] at hg
 have hstrict : gs.Pairwise (fun a b => cmpL a b < 0) := hp.imp (fun h => h.1)
 have hnd : gs.Nodup := hstrict.imp (fun h e => by subst e; rw [cmpL_self] at h; omega)
 have hsort : gs.Pairwise (fun a b => leL a b = true) := hstrict.imp (fun {a b} h => by
  have := cmpL_neg a b
  have : ¬ cmpL b a < 0 := by omega
  simp [leL, this])
 have hin : ∀ g ∈ gs, ∀ g' ∈ gs, bitsN g &&& bitsN g' = bitsN g' → g = g' := by
  intro g hg1 g' hg2 hs
  obtain ⟨i, hi, rfl⟩ := List.mem_iff_getElem.1 hg1
  obtain ⟨j, hj, rfl⟩ := List.mem_iff_getElem.1 hg2
  rcases Nat.lt_trichotomy i j with hij | hij | hij
  ·
   exact absurd hs (List.pairwise_iff_getElem.1 hp i j hi hj hij).2.1
  ·
   subst hij; rfl
  ·
   exact absurd hs (List.pairwise_iff_getElem.1 hp j i hj hi hij).2.2
 refine sorted_unique ?_ (by unfold famN crowdsN; exact sort_sorted _) hsort
 refine (List.perm_ext_iff_of_nodup (nodup_crowdsN hn _) hnd).2 fun g => ?_
 rw [mem_crowdsN]
 constructor
 ·
  rintro ⟨c, hc, hl, rfl⟩
  rw [leastN_iff, openN_iff] at hl
  obtain ⟨⟨g, hgm, hs⟩, hno⟩ := hl
  have hb : bitsN g < 2 ^ n := bitsN_lt (hg g hgm).1
  by_cases e : c = bitsN g
  ·
   rw [e, groupN_bitsN hn (hg g hgm)]; exact hgm
  ·
   exfalso
   have hsub := (sub_iff hn hb).1 hs
   have : ∃ h, h < n ∧ c.testBit h = true ∧ (bitsN g).testBit h = false := by
    refine Classical.byContradiction fun hno => e ?_
    apply Nat.eq_of_testBit_eq
    intro i
    cases hai : c.testBit i with
    | true =>
     cases hbi : (bitsN g).testBit i with
     | true => rfl
     | false => exact absurd ⟨i, lt_of_bit hc hai, hai, hbi⟩ hno
    | false =>
     cases hbi : (bitsN g).testBit i with
     | false => rfl
     | true => have := hsub i (lt_of_bit hb hbi) hbi; rw [hai] at this; cases this
   obtain ⟨h, hh, hct, hgt⟩ := this
   have h2 := hno h hh hct
   have h3 : openN gs (c ^^^ 1 <<< h) = true := openN_iff.2 ⟨g, hgm, by
    rw [sub_iff hn hb]
    intro i hi hbi
    rw [drop_test]
    by_cases e : h = i
    ·
     subst e; rw [hgt] at hbi; cases hbi
    ·
     simp [e, hsub i hi hbi]⟩
   rw [h2] at h3; cases h3
 ·
  intro hgm
  have hb : bitsN g < 2 ^ n := bitsN_lt (hg g hgm).1
  refine ⟨bitsN g, hb, ?_, groupN_bitsN hn (hg g hgm)⟩
  rw [leastN_iff, openN_iff]
  refine ⟨⟨g, hgm, Nat.and_self _⟩, fun h hh ht => ?_⟩
  cases ho : openN gs (bitsN g ^^^ 1 <<< h) with
  | false => rfl
  | true =>
   obtain ⟨g', hg', hs⟩ := openN_iff.1 ho
   have hb' : bitsN g' < 2 ^ n := bitsN_lt (hg g' hg').1
   have := hin g hgm g' hg' (sub_trans hn hb' (drop_lt hb ht) hs (drop_sub hn hb ht))
   subst this
   have h4 := (sub_iff hn hb').1 hs h hh ht
   rw [drop_test, ht] at h4
   simp at h4

end Go.Proofs.YtgemfighmnnmeaaGreat.FamLaw
