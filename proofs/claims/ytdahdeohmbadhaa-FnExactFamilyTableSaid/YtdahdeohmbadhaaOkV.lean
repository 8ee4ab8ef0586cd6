/- Contracts of slices.IndexFunc and slices.ContainsFunc at [][]int64 and []int64, whatever predicate is handed over (it may make memory of its own). Contract of the reference's l01Ok: whether a family is valid. The reference's ValidFamily. -/
import Derived.Test.YtdahdeohmbadhaaWWords
import Derived.Test.YtdahdeohmbadhaaWMore
import Derived.Test.YtdahdeohmbadhaaProg
import Derived.WalkKit
import Derived.Deep.LoopGhost
import Derived.Shelf.Abstract
import Derived.Test.YtdahdeohmbadhaaRefV
import Derived.Test.YtdahdeohmbadhaaGx6
import Derived.Test.YtdahdeohmbadhaaGx6
import Derived.BigQuiet
import Derived.Deep.QuietTactic
namespace Go.Proofs.Ytdahdeohmbadhaa.Idx
open Go.RowKit Go.Proofs.YtdahdeohmbadhaaW.PrintWords Go.Proofs.YtdahdeohmbadhaaW.PrintLast Go.Proofs.YtdahdeohmbadhaaW.PrintMore
set_option linter.unusedVariables false
set_option linter.unusedSimpArgs false

/-- What is asked of a function value: at every element that is ok, in every world in which all that lay in w lies untouched, it hands back p of it. -/
def PredB (P : Program) (g : Nat) (lb : Array Value) {α : Type} (d : Kd α) (ok : α → Prop) (p : α → Bool) (w : World) : Prop :=
 ∀ (W : World) (x : α) (v : Value), Below w.heap.size w W → ok x → d.K W x [v] → Calls P g (#[v] ++ lb) W fun e w' => e = .returned (.bool (p x)) ∧ Below W.heap.size W w'

theorem PredB.later {P : Program} {g : Nat} {lb : Array Value} {α : Type} {d : Kd α} {ok : α → Prop} {p : α → Bool} {w w1 : World} (h : PredB P g lb d ok p w) (hb : Below w.heap.size w w1) : PredB P g lb d ok p w1 :=
 fun W x v hB => h W x v (below_then hb hb.size hB)

/-- What IndexFunc tells. -/
def IdxPost {α : Type} (p : α → Bool) (xs : List α) (r : Int) : Prop :=
 (r = -1 ∧ ∀ x ∈ xs, p x = false) ∨ ∃ n : Nat, r = n ∧ ∃ h : n < xs.length, p xs[n] = true ∧ ∀ (j : Nat) (hj : j < n), p (xs[j]'(by omega)) = false

theorem IdxPost.any {α : Type} {p : α → Bool} {xs : List α} {r : Int} (h : IdxPost p xs r) : decide (r ≥ 0) = xs.any p := by
 rcases h with ⟨rfl, h⟩ | ⟨n, rfl, hn, h, _⟩
 ·
  symm
  have : xs.any p = false := by rw [List.any_eq_false]; intro x hx; rw [h x hx]; simp
  rw [this]; rfl
 ·
  have : xs.any p = true := List.any_eq_true.2 ⟨_, List.getElem_mem hn, h⟩
  rw [this]; simp

/-- A row's element number i, as the walk reads it. -/
theorem elem_at {α : Type} {d : Kd α} (hs : d.sz = 1) {w : World} {A : Option Addr} {n : Nat} {xs : List α} (h : d.C w A n xs) (i : Nat) (hi : i < xs.length) :
  ∃ ad v, A = some ad ∧ w.cell? (ad.add i) = some v ∧ d.K w xs[i] [v] := by
 have hn := h.1
 obtain ⟨ad, e, hc⟩ := h.2.2 (by omega)
 obtain ⟨c, hl, hK, hcell⟩ := hc i xs[i] (List.getElem?_eq_getElem hi)
 match c, hl, hK, hcell with
 | [v], _, hK, hcell => exact ⟨ad, v, e, by have := hcell 0 v rfl; rwa [hs, Nat.mul_one, Nat.add_zero] at this, hK⟩
 | [], hl, _, _ => simp [hs] at hl
 | _ :: _ :: _, hl, _, _ => simp [hs] at hl

set_option maxHeartbeats 2000000 in
theorem idx_rows {α : Type} {d : Kd α} (hs : d.sz = 1) (g : Nat) (lb : Array Value) (eg : ∀ args w, (callFunc g args).run Try.prog w = .ok (.enter g args) w) (p : α → Bool) (ok : α → Prop) (A : Option Addr) (c : Nat) (xs : List α) (w : World)
  (hC : d.C w A xs.length xs) (hok : ∀ x ∈ xs, ok x) (hp : PredB Try.prog g lb d ok p w) :
  Calls Try.prog 221 #[.slice A xs.length c, .func (.func g) #[] lb] w fun e w' => (∃ r, e = .returned (.int .i64 r) ∧ IdxPost p xs r) ∧ Below w.heap.size w w' := by
 have hbig : xs.length ≤ 9223372036854775807 := hC.2.1
 have HC := Aside0.mk hC
 have HP := Aside0.mk hp
 have HO := Aside0.mk hok
 clear hC hp hok
 go_enter Try.func221, Try.ntmps221
 go_wp2
 go_loopg [5, 8] xs.length (fun gg _ s8 wr => ∃ kk : Nat, kk ≤ xs.length ∧ xs.length - kk ≤ gg ∧ s8 = .int .i64 kk ∧ Aside0 (Below w.heap.size w wr) ∧ Aside0 (∀ (j : Nat) (hj : j < xs.length), j < kk → p xs[j] = false))
 case atStart => exact ⟨0, Nat.zero_le _, by omega, rfl, ⟨Below.refl _ w⟩, ⟨fun j _ hj => absurd hj (Nat.not_lt_zero _)⟩⟩
 case round =>
  obtain ⟨kk, hkk, hg, rfl, BW, AA⟩ := hrel
  by_cases hlt : kk < xs.length
  ·
   have hltz : (kk : Int) < (xs.length : Int) := by omega
   obtain ⟨ad, v, rfl, hcell, hK⟩ := elem_at hs HC.out kk hlt
   have l2 : wr.cell? (ad.add kk) = some v := pw_cell_below BW.out hcell
   have hcall := HP.out wr xs[kk] v BW.out (HO.out _ (List.getElem_mem hlt)) (d.K_below BW.out hK)
   clear hcell hK
   cases hq : p xs[kk] with
   | true =>
    rw [hq] at hcall
    have HQ := Aside0.mk hq
    clear hq
    go_wp2_with (go_at_fn g; refine hcall.mono ?_; rintro e w' ⟨rfl, hb'⟩)
    go_ret
    exact ⟨⟨_, rfl, .inr ⟨kk, rfl, hlt, HQ.out, fun j hj => AA.out j (by omega) hj⟩⟩, below_then BW.out BW.out.size hb'⟩
   | false =>
    rw [hq] at hcall
    have HQ := Aside0.mk hq
    clear hq
    go_wp2_with (go_at_fn g; refine hcall.mono ?_; rintro e w' ⟨rfl, hb'⟩)
    go_roundg (xs.length - (kk + 1))
    case measure => omega
    case rel =>
     refine ⟨kk + 1, by omega, by omega, by go_num, ⟨below_then BW.out BW.out.size hb'⟩, ⟨fun j hj hj' => ?_⟩⟩
     by_cases e : j = kk
     ·
      subst e
      exact HQ.out
     ·
      exact AA.out j hj (by omega)
  ·
   have hltz : ¬ (kk : Int) < (xs.length : Int) := by omega
   obtain rfl : kk = xs.length := by omega
   go_wp2
   go_ret
   refine ⟨⟨_, rfl, .inl ⟨rfl, fun x hx => ?_⟩⟩, BW.out⟩
   obtain ⟨j, hj, rfl⟩ := List.mem_iff_getElem.1 hx
   exact AA.out j hj hj

set_option maxHeartbeats 1000000 in
theorem contains_rows {α : Type} {d : Kd α} (hs : d.sz = 1) (g : Nat) (lb : Array Value) (eg : ∀ args w, (callFunc g args).run Try.prog w = .ok (.enter g args) w) (p : α → Bool) (ok : α → Prop) (A : Option Addr) (c : Nat) (xs : List α) (w : World)
  (hC : d.C w A xs.length xs) (hok : ∀ x ∈ xs, ok x) (hp : PredB Try.prog g lb d ok p w) :
  Calls Try.prog 190 #[.slice A xs.length c, .func (.func g) #[] lb] w fun e w' => e = .returned (.bool (xs.any p)) ∧ Below w.heap.size w w' := by
 have H := idx_rows hs g lb eg p ok A c xs w hC hok hp
 clear hC hok hp
 go_enter Try.func190, Try.ntmps190
 go_wp2_with (go_at_call 221; refine H.mono ?_; rintro e w' ⟨⟨r, rfl, hr⟩, hb⟩)
 go_ret
 exact ⟨by rw [← hr.any]; rfl, hb⟩

end Go.Proofs.Ytdahdeohmbadhaa.Idx

namespace Go.Proofs.Ytdahdeohmbadhaa.Ok
open Go.RowKit Go.Lib Go.Proofs Go.Proofs.YtdahdeohmbadhaaW.PrintWords Go.Proofs.YtdahdeohmbadhaaW.PrintWords.Kd Go.Proofs.YtdahdeohmbadhaaW.PrintLast Go.Proofs.YtdahdeohmbadhaaW.PrintMore Go.Proofs.Ytdahdeohmbadhaa.G Go.Proofs.Ytdahdeohmbadhaa.Fam Go.Proofs.Ytdahdeohmbadhaa.Loops Go.Proofs.Ytdahdeohmbadhaa.Bits Go.Proofs.Ytdahdeohmbadhaa.Idx Go.Proofs.Ytdahdeohmbadhaa.Valid Go.Proofs.Ytdahdeohmbadhaa.Ref Go.Proofs.Ytdahdeohmbadhaa.Sorted
set_option linter.unusedVariables false
set_option linter.unusedSimpArgs false

abbrev dR : Kd (List Int) := Kd.slice 2 (Kd.int .i64)
theorem in_is (a b c : Int) : spec_l00In.f a b c = some (decide (b ≤ a ∧ a ≤ c)) := by
 unfold spec_l00In.f
 by_cases h : a ≥ b
 ·
  rw [if_pos h]; congr 1; apply decide_eq_decide.2; omega
 ·
  rw [if_neg h]; congr 1; symm; apply decide_eq_false; omega
theorem in_calls (a b c : Int) (W : World) : Calls Try.prog 95 #[.int .i64 a, .int .i64 b, .int .i64 c] W fun e w' => e = .returned (.bool (decide (b ≤ a ∧ a ≤ c))) ∧ ∃ q, w' = W.drewN q :=
 (spec_l00In.calls a b c _ W (in_is a b c)).mono fun e w' ⟨he, hd⟩ => ⟨he, hd.out⟩

theorem rises_loop (m : Int) (g : List Int) (hl : g.length ≤ 9223372036854775807) : ∀ (d n : Nat), n ≤ g.length → g.length - n = d →
  ∃ b, Ev (fun k => spec_l00Rises.l0 k g 0 m (n : Int)) b ∧ (b = true ↔ ∀ i, i < g.length → n ≤ i → (0 ≤ g.getD i 0 ∧ g.getD i 0 ≤ m) ∧ (0 < i → g.getD (i - 1) 0 < g.getD i 0)) := by
 intro d
 induction d with
 | zero =>
  intro n hn hd
  refine ⟨true, Ev.step (f := fun _ => some true) (fun k => by simp only [spec_l00Rises.l0]; rw [if_neg (by omega)]) (Ev.now true), ?_⟩
  simp only [true_iff]
  intro i hi h
  omega
 | succ d ih =>
  intro n hn hd
  have hlt : n < g.length := by omega
  obtain ⟨b, hb, hb'⟩ := ih (n + 1) (by omega) (by omega)
  have hw : wrap64 ((n : Int) + 1) = ((n + 1 : Nat) : Int) := by rw [wrap_id (by omega) (by omega)]; omega
  by_cases h1 : 0 ≤ g.getD n 0 ∧ g.getD n 0 ≤ m
  ·
   by_cases h2 : (n : Int) > 0
   ·
    have hp : wrap64 ((n : Int) - 1) = ((n - 1 : Nat) : Int) := by rw [wrap_id (by omega) (by omega)]; omega
    by_cases h3 : g.getD (n - 1) 0 ≥ g.getD n 0
    ·
     refine ⟨false, Ev.step (f := fun _ => some false) (fun k => ?_) (Ev.now false), ?_⟩
     ·
      simp only [spec_l00Rises.l0]
      rw [if_pos (by omega), if_pos (by omega), rd_nat, in_is, decide_eq_true h1]
      simp only [Option.bind_some, if_true]
      rw [if_pos h2, hp, if_pos (by omega), if_pos (by omega), rd_nat, if_pos h3]
     ·
      simp only [Bool.false_eq_true, false_iff]
      intro h
      have := (h n hlt (Nat.le_refl _)).2 (by omega)
      omega
    ·
     refine ⟨b, Ev.step (fun k => ?_) hb, hb'.trans ⟨fun h i hi hni => ?_, fun h i hi hni => h i hi (by omega)⟩⟩
     ·
      simp only [spec_l00Rises.l0]
      rw [if_pos (by omega), if_pos (by omega), rd_nat, in_is, decide_eq_true h1]
      simp only [Option.bind_some, if_true]
      rw [if_pos h2, hp, if_pos (by omega), if_pos (by omega), rd_nat, if_neg h3, hw]
     ·
      by_cases e : i = n
      ·
       subst e; exact ⟨h1, fun _ => by omega⟩
      ·
       exact h i hi (by omega)
   ·
    refine ⟨b, Ev.step (fun k => ?_) hb, hb'.trans ⟨fun h i hi hni => ?_, fun h i hi hni => h i hi (by omega)⟩⟩
    ·
     simp only [spec_l00Rises.l0]
     rw [if_pos (by omega), if_pos (by omega), rd_nat, in_is, decide_eq_true h1]
     simp only [Option.bind_some, if_true]
     rw [if_neg h2, hw]
    ·
     by_cases e : i = n
     ·
      subst e; exact ⟨h1, fun _ => by omega⟩
     ·
      exact h i hi (by omega)
  ·
   refine ⟨false, Ev.step (f := fun _ => some false) (fun k => ?_) (Ev.now false), ?_⟩
   ·
    simp only [spec_l00Rises.l0]
    rw [if_pos (by omega), if_pos (by omega), rd_nat, in_is, decide_eq_false h1]
    simp
   ·
    simp only [Bool.false_eq_true, false_iff]
    intro h
    exact h1 (h n hlt (Nat.le_refl _)).1
theorem group_ev (n : Nat) (hn : n ≤ 7) (g : List Int) (hl : g.length ≤ 9223372036854775807) : Ev (fun k => spec_l01Group.f k (n : Int) g) (decide (isGroupN n g)) := by
 obtain ⟨b, hb, hb'⟩ := rises_loop ((n : Int) - 1) g hl g.length 0 (by omega) (by omega)
 have : b = decide (isGroupN n g) := by
  rw [Bool.eq_iff_iff, hb', decide_eq_true_iff]
  unfold isGroupN
  rw [pairwise_adj]
  constructor
  ·
   intro h
   refine ⟨fun x hx => ?_, fun i hi h0 => (h i hi (by omega)).2 h0⟩
   obtain ⟨i, hi, rfl⟩ := List.mem_iff_getElem.1 hx
   have := (h i hi (by omega)).1
   rw [getD_of hi] at this
   omega
  ·
   rintro ⟨h1, h2⟩ i hi _
   rw [getD_of hi]
   refine ⟨by have := h1 _ (List.getElem_mem hi); omega, fun h0 => ?_⟩
   have := h2 i hi h0
   rwa [getD_of hi] at this
 rw [← this]
 unfold spec_l01Group.f spec_l00Rises.f
 rw [show wrap64 ((n : Int) - 1) = (n : Int) - 1 from wrap_id (by omega) (by omega)]
 exact Ev.bind (g := fun k => spec_l00Rises.l0 k g 0 ((n : Int) - 1) 0) hb (Ev.now b)
theorem group_calls (n : Nat) (hn : n ≤ 7) (A : Option Addr) (c : Nat) (g : List Int) (W : World) (hC : Kd.C (Kd.int .i64) W A g.length g) (hc : g.length ≤ c) :
  Calls Try.prog 163 #[.int .i64 (n : Int), .slice A g.length c] W fun e w' => e = .returned (.bool (decide (isGroupN n g))) ∧ ∃ q, w' = W.drewN q := by
 obtain ⟨k, hk⟩ := (group_ev n hn g hC.2.1).rounds
 exact (spec_l01Group.calls k (n : Int) A c g _ W hC hc hk).mono fun e w' ⟨he, hd⟩ => ⟨he, hd.out⟩
theorem inside_ev (a b : List Int) (hla : a.length ≤ 9223372036854775807) (hlb : b.length ≤ 9223372036854775807) (ha : ∀ x ∈ a, 0 ≤ x ∧ x < 7) (hb : ∀ x ∈ b, 0 ≤ x ∧ x < 7) : Ev (fun k => spec_l01Within.f k a b) (decide (bitsN a &&& bitsN b = bitsN a)) := by
 unfold spec_l01Within.f
 refine Ev.bind (bits_is a hla ha) (Ev.bind (bits_is b hlb hb) ?_)
 rw [and64 (bits_lt a ha) (bits_lt b hb)]
 have : ((((bitsN a &&& bitsN b : Nat)) : Int) == ((bitsN a : Nat) : Int)) = decide (bitsN a &&& bitsN b = bitsN a) := by
  rw [Bool.eq_iff_iff, beq_iff_eq, decide_eq_true_iff]
  omega
 rw [this]
 exact Ev.now _
theorem inside_calls (A A' : Option Addr) (c c' : Nat) (a b : List Int) (W : World) (hC : Kd.C (Kd.int .i64) W A a.length a) (hc : a.length ≤ c) (hC' : Kd.C (Kd.int .i64) W A' b.length b) (hc' : b.length ≤ c') (ha : ∀ x ∈ a, 0 ≤ x ∧ x < 7) (hb : ∀ x ∈ b, 0 ≤ x ∧ x < 7) :
  Calls Try.prog 188 #[.slice A a.length c, .slice A' b.length c'] W fun e w' => e = .returned (.bool (decide (bitsN a &&& bitsN b = bitsN a))) ∧ ∃ q, w' = W.drewN q := by
 obtain ⟨k, hk⟩ := (inside_ev a b hC.2.1 hC'.2.1 ha hb).rounds
 exact (spec_l01Within.calls k A c a A' c' b _ W hC hc hC' hc' hk).mono fun e w' ⟨he, hd⟩ => ⟨he, hd.out⟩

/-! ### what it asks -/
def Row1 (m : Nat) (gs : List (List Int)) (j : Nat) : Prop := isGroupN m (gs.getD j []) ∧ (0 < j → cmpL (gs.getD (j - 1) []) (gs.getD j []) < 0)
def Row2 (gs : List (List Int)) (a b : Nat) : Prop := a ≠ b → ¬ (bitsN (gs.getD a []) &&& bitsN (gs.getD b []) = bitsN (gs.getD a []))
theorem valid_rows (m : Nat) (hm : 1 ≤ m ∧ m ≤ 7) (gs : List (List Int)) : ValidF (m : Int) gs ↔ (∀ j, j < gs.length → Row1 m gs j) ∧ ∀ a, a < gs.length → ∀ b, b < gs.length → Row2 gs a b := by
 have hg := goods (n := m) (gs := gs)
 unfold ValidF
 rw [Int.toNat_natCast, ← hg]
 constructor
 ·
  rintro ⟨_, h⟩
  refine ⟨fun j hj => ⟨(h j (by omega) hj).1, (h j (by omega) hj).2.1⟩, fun a ha b hb hab => ?_⟩
  rcases Nat.lt_or_gt_of_ne hab with hl | hl
  ·
   have := ((h b (by omega) hb).2.2 a hl).2
   intro e
   apply this
   rw [Nat.and_comm]; exact e
  ·
   have := ((h a (by omega) ha).2.2 b hl).1
   intro e
   apply this
   rw [Nat.and_comm]; exact e
 ·
  rintro ⟨h1, h2⟩
  refine ⟨by omega, fun j _ hj => ⟨(h1 j hj).1, (h1 j hj).2, fun i hi => ⟨fun e => ?_, fun e => ?_⟩⟩⟩
  ·
   refine h2 j hj i (by omega) (by omega) ?_
   rw [Nat.and_comm]; exact e
  ·
   refine h2 i (by omega) j hj (by omega) ?_
   rw [Nat.and_comm]; exact e

/-- Element number i of a family's groups, as it is read. -/
theorem row_at {W : World} {A : Option Addr} {gs : List (List Int)} (h : dR.C W A gs.length gs) {i : Nat} (hi : i < gs.length) :
  ∃ ad A' c', A = some ad ∧ W.cell? (ad.add i) = some (.slice A' (gs.getD i []).length c') ∧ (gs.getD i []).length ≤ c' ∧ Kd.C (Kd.int .i64) W A' (gs.getD i []).length (gs.getD i []) := by
 obtain ⟨ad, v, e, hc, A', c', hv, hl, hC⟩ := elem_at (d := dR) rfl h i hi
 have hv' : v = .slice A' gs[i].length c' := by simpa using hv
 have hg : gs.getD i [] = gs[i] := getDg hi
 refine ⟨ad, A', c', e, ?_, ?_, ?_⟩
 ·
  rw [hc, hv', hg]
 ·
  rw [hg]; exact hl
 ·
  rw [hg]; exact hC

/-- The second half: every two rows, the one not within the other. -/
def Loop2 (gs : List (List Int)) (i : Nat) : Prop := ∀ a, a < i → ∀ b, b < gs.length → Row2 gs a b

set_option maxHeartbeats 8000000 in
set_option maxRecDepth 100000 in
theorem ok_yes (g m : Nat) (hm : 1 ≤ m ∧ m ≤ 7) (A : Option Addr) (cap : Nat) (gs : List (List Int)) (w : World) (hg0 : w.cell? ⟨g, 0, none⟩ = some (.int .i64 (m : Int))) (hg1 : w.cell? ⟨g, 1, none⟩ = some (.slice A gs.length cap)) (hC : dR.C w A gs.length gs) :
  Calls Try.prog 151 #[.pointer (some ⟨g, 0, none⟩)] w fun e w' => e = .returned (.bool (decide (ValidF (m : Int) gs))) ∧ Below w.heap.size w w' := by
 have hu := Try.underlying58
 have hbig : gs.length ≤ 9223372036854775807 := hC.2.1
 have HIN := fun W => in_calls (m : Int) 1 7 W
 rw [decide_eq_true (show (1 : Int) ≤ (m : Int) ∧ (m : Int) ≤ 7 by omega)] at HIN
 have HV := Aside0.mk (valid_rows m hm gs)
 have HL2 := Aside0.mk (show ∀ i, Loop2 gs i ↔ ∀ a, a < i → ∀ b, b < gs.length → Row2 gs a b from fun _ => Iff.rfl)
 generalize hVV : decide (ValidF (m : Int) gs) = vv at *
 have HVV := Aside0.mk hVV
 clear hVV
 have HR := Aside0.mk (fun (W : World) (hb : Below w.heap.size w W) (i : Nat) (hi : i < gs.length) => row_at (C_below hC hb) hi)
 have HM := Aside0.mk hm
 have HG0 := Aside0.mk hg0
 have HG1 := Aside0.mk hg1
 clear hC hm
 generalize hL : gs.length = L at *
 have HL := Aside0.mk hL
 clear hL
 go_enter Try.func151, Try.ntmps151
 go_wp2_with (go_at_call 95; refine (HIN _).mono ?_; clear hg0 hg1; rintro e w1 ⟨rfl, q1, hw1⟩; have HB1 := Aside0.mk (show Below w.heap.size w w1 by rw [hw1]; exact pw_below_drewN (Below.refl _ _) _); clear hw1)
 go_loopg [3] L (fun gg v3 wr => ∃ i : Nat, i ≤ L ∧ L - i ≤ gg ∧ v3 = .int .i64 (i : Int) ∧ Aside0 (Below w.heap.size w wr) ∧ Aside0 (∀ j, j < i → Row1 m gs j))
 case atStart => exact ⟨0, Nat.zero_le _, by omega, rfl, HB1, ⟨fun j hj => absurd hj (Nat.not_lt_zero _)⟩⟩
 case round =>
  clear HB1
  obtain ⟨i, hi, hgg, rfl, HB, HP⟩ := hrel
  have d0 := pw_cell_below HB.out HG0.out
  have d1 := pw_cell_below HB.out HG1.out
  by_cases hlt : i < L
  ·
   have hltz : (i : Int) < (L : Int) := by omega
   obtain ⟨ad, A1, c1, rfl, e1, le1, C1⟩ := HR.out wr HB.out i hlt
   have HGR := fun q => group_calls m (by have := HM.out; omega) A1 c1 (gs.getD i []) (wr.drewN q) (C_drewN C1 q) le1
   have LE1 := Aside0.mk le1
   have CC1 := Aside0.mk C1
   clear le1 C1
   cases hq : decide (isGroupN m (gs.getD i [])) with
   | false =>
    rw [hq] at HGR
    have HQ := Aside0.mk (show Row1 m gs i → False from fun h => by rw [decide_eq_true h.1] at hq; cases hq)
    clear hq CC1 LE1
    generalize gs.getD i [] = x at *
    go_wp2_with (fail)
    go_quiet (first | (go_at_call 163; exact Calls.quiet_of (HGR _)))
    go_wp2_with (fail)
    go_ret
    refine ⟨?_, by repeat (first | exact HB.out | apply pw_below_drewN)⟩
    rw [← HVV.out, decide_eq_false (fun h => HQ.out ((HV.out.1 h).1 i hlt))]
    rfl
   | true =>
    rw [hq] at HGR
    have HQ := Aside0.mk (of_decide_eq_true hq)
    clear hq
    by_cases hi0 : i = 0
    ·
     have hd : decide ((0 : Int) < (i : Int)) = false := decide_eq_false (by omega)
     have hd2 : decide (0 < i) = false := decide_eq_false (by omega)
     have HI0 := Aside0.mk hi0
     have HR1 := Aside0.mk (show Row1 m gs i from ⟨HQ.out, fun h => absurd h (by omega)⟩)
     clear hi0 HQ CC1 LE1
     generalize gs.getD i [] = x at *
     go_wp2_with (fail)
     go_quiet (first | (go_at_call 163; exact Calls.quiet_of (HGR _)))
     go_wp2_with (fail)
     go_roundg (L - (i + 1))
     case measure => omega
     case rel =>
      refine ⟨i + 1, by omega, by omega, by go_num, ⟨by repeat (first | exact HB.out | apply pw_below_drewN)⟩, ⟨fun j hj => ?_⟩⟩
      by_cases e : j = i
      ·
       subst e; exact HR1.out
      ·
       exact HP.out j (by omega)
    ·
     obtain ⟨j, hj⟩ : ∃ j, i = j + 1 := ⟨i - 1, by omega⟩
     obtain ⟨ad', A0, c0, e', e0, le0, C0⟩ := HR.out wr HB.out j (by omega)
     obtain rfl : ad = ad' := by injection e'
     clear e'
     have HBF := fun q => before_calls A0 A1 c0 c1 (gs.getD j []) (gs.getD i []) (wr.drewN q) (C_drewN C0 q) le0 (C_drewN CC1.out q) LE1.out
     clear C0 le0 CC1 LE1
     have HRX := Aside0.mk (show cmpL (gs.getD j []) (gs.getD i []) < 0 ↔ Row1 m gs i from ⟨fun h => ⟨HQ.out, fun _ => by rw [show i - 1 = j by omega]; exact h⟩, fun h => by have := h.2 (by omega); rwa [show i - 1 = j by omega] at this⟩)
     clear HQ
     have hb1 : decide ((0 : Int) < (i : Int)) = true := decide_eq_true (by omega)
     have hb2 : decide (0 < i) = true := decide_eq_true (by omega)
     have hb3 : (j : Int) < (L : Int) := by omega
     have hb5 : (0 : Int) ≤ (j : Int) := by omega
     have hb8 : (i : Int) - 1 = (j : Int) := by omega
     have hb7 : IntKind.i64.wrap (j : Int) = (j : Int) := IntWalk.i64_in _ (by omega)
     have HIJ := Aside0.mk hj
     clear hj hi0
     cases hq : decide (cmpL (gs.getD j []) (gs.getD i []) < 0) with
     | false =>
      rw [hq] at HBF
      have HQ := Aside0.mk (show Row1 m gs i → False from fun h => of_decide_eq_false hq (HRX.out.2 h))
      clear hq HRX
      generalize gs.getD j [] = x at *
      generalize gs.getD i [] = y at *
      go_wp2_with (fail)
      go_quiet (first | (go_at_call 163; exact Calls.quiet_of (HGR _)) | (go_at_call 187; exact Calls.quiet_of (HBF _)))
      go_wp2_with (fail)
      go_ret
      refine ⟨?_, by repeat (first | exact HB.out | apply pw_below_drewN)⟩
      rw [← HVV.out, decide_eq_false (fun h => HQ.out ((HV.out.1 h).1 _ hlt))]
      rfl
     | true =>
      rw [hq] at HBF
      have HQ := Aside0.mk (HRX.out.1 (of_decide_eq_true hq))
      clear hq HRX
      generalize gs.getD j [] = x at *
      generalize gs.getD i [] = y at *
      go_wp2_with (fail)
      go_quiet (first | (go_at_call 163; exact Calls.quiet_of (HGR _)) | (go_at_call 187; exact Calls.quiet_of (HBF _)))
      go_wp2_with (fail)
      clear hb8
      go_roundg (L - (i + 1))
      case measure => omega
      case rel =>
       refine ⟨i + 1, by omega, by omega, by go_num, ⟨by repeat (first | exact HB.out | apply pw_below_drewN)⟩, ⟨fun a ha => ?_⟩⟩
       by_cases e : a = i
       ·
        subst e; exact HQ.out
       ·
        exact HP.out a (by omega)
  ·
   have hltz : ¬ (i : Int) < (L : Int) := by omega
   obtain rfl : i = L := by omega
   clear hlt
   have HSM := Aside0.mk (show ∀ j, j < i → ∀ x ∈ gs.getD j [], 0 ≤ x ∧ x < 7 from fun j hj => small_of (by have := HM.out; omega) (HP.out j hj).1)
   go_wp2_with (fail)
   go_loopg [4, 5] i (fun gg v4 _ wr => ∃ a : Nat, a ≤ i ∧ i - a ≤ gg ∧ v4 = .int .i64 (a : Int) ∧ Aside0 (Below w.heap.size w wr) ∧ Aside0 (Loop2 gs a))
   case atStart => exact ⟨0, Nat.zero_le _, by omega, rfl, HB, ⟨fun a ha => absurd ha (Nat.not_lt_zero _)⟩⟩
   case round =>
    clear HB d0 d1
    obtain ⟨a, ha, hgg2, rfl, HB, HP2⟩ := hrel
    have d1 := pw_cell_below HB.out HG1.out
    by_cases hlt : a < i
    ·
     have hltz2 : (a : Int) < (i : Int) := by omega
     go_wp2_with (fail)
     go_loopg [5] i (fun g2 v5 w2 => ∃ b : Nat, b ≤ i ∧ i - b ≤ g2 ∧ v5 = .int .i64 (b : Int) ∧ Aside0 (Below w.heap.size w w2) ∧ Aside0 (∀ c, c < b → Row2 gs a c))
     case atStart => exact ⟨0, Nat.zero_le _, by omega, rfl, HB, ⟨fun c hc => absurd hc (Nat.not_lt_zero _)⟩⟩
     case round =>
      clear HB d1
      obtain ⟨b, hb, hg2, rfl, HB, HP3⟩ := hrel
      have d1 := pw_cell_below HB.out HG1.out
      by_cases hlt3 : b < i
      ·
       have hltz3 : (b : Int) < (i : Int) := by omega
       by_cases hab : a = b
       ·
        have hd : ((a : Int) != (b : Int)) = false := by rw [hab]; simp
        have hd2 : (a != b) = false := by rw [hab]; simp
        have HAB := Aside0.mk (show Row2 gs a b from fun h => absurd hab h)
        clear hab
        go_wp2_with (fail)
        go_quiet (fail)
        go_wp2_with (fail)
        go_roundg (i - (b + 1))
        case measure => omega
        case rel =>
         refine ⟨b + 1, by omega, by omega, by go_num, ⟨by repeat (first | exact HB.out | apply pw_below_drewN)⟩, ⟨fun c hc => ?_⟩⟩
         by_cases e : c = b
         ·
          subst e; exact HAB.out
         ·
          exact HP3.out c (by omega)
       ·
        obtain ⟨ad, A1, c1, rfl, e1, le1, C1⟩ := HR.out wr HB.out a hlt
        obtain ⟨ad', A2, c2, e', e2, le2, C2⟩ := HR.out wr HB.out b hlt3
        obtain rfl : ad = ad' := by injection e'
        clear e'
        have HIS := fun q => inside_calls A1 A2 c1 c2 (gs.getD a []) (gs.getD b []) (wr.drewN q) (C_drewN C1 q) le1 (C_drewN C2 q) le2 (HSM.out a hlt) (HSM.out b hlt3)
        clear C1 C2 le1 le2
        have hd : ((a : Int) != (b : Int)) = true := bne_iff_ne.2 (by omega)
        have hd2 : (a != b) = true := bne_iff_ne.2 hab
        have HRX := Aside0.mk (show ¬ (bitsN (gs.getD a []) &&& bitsN (gs.getD b []) = bitsN (gs.getD a [])) ↔ Row2 gs a b from ⟨fun h _ => h, fun h => h hab⟩)
        clear hab
        cases hq : decide (bitsN (gs.getD a []) &&& bitsN (gs.getD b []) = bitsN (gs.getD a [])) with
        | false =>
         rw [hq] at HIS
         have HQ := Aside0.mk (HRX.out.1 (of_decide_eq_false hq))
         clear hq HRX
         generalize gs.getD a [] = x at *
         generalize gs.getD b [] = y at *
         go_wp2_with (fail)
         go_quiet (first | (go_at_call 188; exact Calls.quiet_of (HIS _)))
         go_wp2_with (fail)
         go_roundg (i - (b + 1))
         case measure => omega
         case rel =>
          refine ⟨b + 1, by omega, by omega, by go_num, ⟨by repeat (first | exact HB.out | apply pw_below_drewN)⟩, ⟨fun c hc => ?_⟩⟩
          by_cases e : c = b
          ·
           subst e; exact HQ.out
          ·
           exact HP3.out c (by omega)
        | true =>
         rw [hq] at HIS
         have HQ := Aside0.mk (show Row2 gs a b → False from fun h => HRX.out.2 h (of_decide_eq_true hq))
         clear hq HRX
         generalize gs.getD a [] = x at *
         generalize gs.getD b [] = y at *
         go_wp2_with (fail)
         go_quiet (first | (go_at_call 188; exact Calls.quiet_of (HIS _)))
         go_wp2_with (fail)
         go_ret
         refine ⟨?_, by repeat (first | exact HB.out | apply pw_below_drewN)⟩
         rw [← HVV.out, decide_eq_false (fun h => HQ.out ((HV.out.1 h).2 a hlt b hlt3))]
         rfl
      ·
       have hltz3 : ¬ (b : Int) < (i : Int) := by omega
       obtain rfl : b = i := by omega
       go_wp2_with (fail)
       go_roundg (b - (a + 1))
       case measure => omega
       case rel =>
        refine ⟨a + 1, by omega, by omega, by go_num, HB, ⟨fun c hc => ?_⟩⟩
        by_cases e : c = a
        ·
         subst e; rw [HL.out]; exact HP3.out
        ·
         exact HP2.out c (by omega)
    ·
     have hltz2 : ¬ (a : Int) < (i : Int) := by omega
     obtain rfl : a = i := by omega
     go_wp2_with (fail)
     go_ret
     refine ⟨?_, HB.out⟩
     rw [← HVV.out, decide_eq_true (HV.out.2 ⟨HP.out, (HL2.out a).1 HP2.out⟩)]
     rfl

set_option maxHeartbeats 1000000 in
theorem ok_no (g : Nat) (n : Int) (hn : ¬ (1 ≤ n ∧ n ≤ 7)) (gs : List (List Int)) (w : World) (hg0 : w.cell? ⟨g, 0, none⟩ = some (.int .i64 n)) :
  Calls Try.prog 151 #[.pointer (some ⟨g, 0, none⟩)] w fun e w' => e = .returned (.bool (decide (ValidF n gs))) ∧ Below w.heap.size w w' := by
 have hu := Try.underlying58
 have HIN := fun W => in_calls n 1 7 W
 rw [decide_eq_false hn] at HIN
 rw [decide_eq_false (fun h => hn h.1)]
 clear hn
 go_enter Try.func151, Try.ntmps151
 go_wp2_with (go_at_call 95; refine (HIN _).mono ?_; clear hg0; rintro e w1 ⟨rfl, q1, rfl⟩)
 go_ret
 exact ⟨rfl, by repeat (first | exact Below.refl _ _ | apply pw_below_drewN)⟩

theorem ok_calls (g : Nat) (n : Int) (A : Option Addr) (cap : Nat) (gs : List (List Int)) (w : World) (hg0 : w.cell? ⟨g, 0, none⟩ = some (.int .i64 n)) (hg1 : w.cell? ⟨g, 1, none⟩ = some (.slice A gs.length cap)) (hC : dR.C w A gs.length gs) :
  Calls Try.prog 151 #[.pointer (some ⟨g, 0, none⟩)] w fun e w' => e = .returned (.bool (decide (ValidF n gs))) ∧ Below w.heap.size w w' := by
 by_cases hn : 1 ≤ n ∧ n ≤ 7
 ·
  obtain ⟨m, rfl⟩ : ∃ m : Nat, n = (m : Int) := ⟨n.toNat, by omega⟩
  exact ok_yes g m (by omega) A cap gs w hg0 hg1 hC
 ·
  exact ok_no g n hn gs w hg0
end Go.Proofs.Ytdahdeohmbadhaa.Ok

namespace Go.Proofs.Ytdahdeohmbadhaa.TFamV
open Go.RowKit Go.Lib Go.Proofs Go.Proofs.YtdahdeohmbadhaaW.PrintWords Go.Proofs.YtdahdeohmbadhaaW.PrintWords.Kd Go.Proofs.YtdahdeohmbadhaaW.PrintLast Go.Proofs.YtdahdeohmbadhaaW.PrintMore Go.Proofs.Ytdahdeohmbadhaa.G Go.Proofs.Ytdahdeohmbadhaa.Fam Go.Proofs.Ytdahdeohmbadhaa.Loops Go.Proofs.Ytdahdeohmbadhaa.Valid
set_option linter.unusedVariables false
set_option linter.unusedSimpArgs false

def validS (n : Int) (gs : List (List Int)) : Option Bool := some (decide (ValidF n gs))
set_option maxHeartbeats 4000000 in
set_option maxRecDepth 100000 in
theorem validS_calls (a0_0 : Int) (A0_1 : Option Addr) (c0_1 : Nat) (l0_1 : List (List Int)) (r : Bool) (w : World) (hr0_1 : Kd.C (Kd.slice 2 (Kd.int .i64)) w A0_1 l0_1.length l0_1) (hc0_1 : l0_1.length ≤ c0_1) (h : validS a0_0 l0_1 = some r) :
  Calls Try.prog 110 #[.agg #[.int .i64 a0_0, .slice A0_1 l0_1.length c0_1]] w fun e w' => e = .returned (.bool r) ∧ Below w.heap.size w w' := by
 have h := Option.some.inj h
 subst h
 have HC := Aside0.mk hr0_1
 clear hr0_1
 go_enter Try.func110, Try.ntmps110
 go_wp2_with (first | ((with_reducible refine gate_dst (N := 1) rfl ?_); refine box_event ?hg (N := 1) ?hd (cs := #[.int .i64 a0_0, .slice A0_1 l0_1.length c0_1]) (t := 58) ?hr ?_; (case hd => rfl); (case hg => rfl); (case hr => first | (go_simp; done) | (go_simp; rfl)); intro g hg w1 hbox hb; have HB1 := Aside0.mk hb; have K1 := Aside0.mk hbox; clear hg hb hbox) | (go_at_call 151; (with_reducible refine (Ok.ok_calls g a0_0 A0_1 c0_1 l0_1 _ ((blk_cell K1.out 0).trans rfl) ((blk_cell K1.out 1).trans rfl) ?sideC).mono ?_); (case sideC => exact Kd.C_below HC.out HB1.out); rintro e w2 ⟨rfl, hb⟩; have HB2 := Aside0.mk (below_then HB1.out HB1.out.size hb); clear hb))
 go_ret
 exact ⟨rfl, HB2.out⟩
end Go.Proofs.Ytdahdeohmbadhaa.TFamV
