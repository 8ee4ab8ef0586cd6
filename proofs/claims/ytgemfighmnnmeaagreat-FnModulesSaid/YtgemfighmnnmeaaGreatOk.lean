/- Contract of the reference's l01Ok: whether a family is valid. -/
import Derived.Test.YtgemfighmnnmeaaGreatRef
import Derived.Test.YtgemfighmnnmeaaGreatGx5
import Derived.Test.YtgemfighmnnmeaaGreatGx5
import Derived.BigQuiet
import Derived.Deep.QuietTactic
namespace Go.Proofs.YtgemfighmnnmeaaGreat.Ok
open Go.RowKit Go.Lib Go.Proofs Go.Proofs.YtgemfighmnnmeaaGreatW.PrintWords Go.Proofs.YtgemfighmnnmeaaGreatW.PrintWords.Kd Go.Proofs.YtgemfighmnnmeaaGreatW.PrintLast Go.Proofs.YtgemfighmnnmeaaGreatW.PrintMore Go.Proofs.YtgemfighmnnmeaaGreat.G Go.Proofs.YtgemfighmnnmeaaGreat.Fam Go.Proofs.YtgemfighmnnmeaaGreat.Loops Go.Proofs.YtgemfighmnnmeaaGreat.Bits Go.Proofs.YtgemfighmnnmeaaGreat.Sorting Go.Proofs.YtgemfighmnnmeaaGreat.Crowds Go.Proofs.YtgemfighmnnmeaaGreat.Sorted Go.Proofs.YtgemfighmnnmeaaGreat.Idx Go.Proofs.YtgemfighmnnmeaaGreat.Valid Go.Proofs.YtgemfighmnnmeaaGreat.Opens Go.Proofs.YtgemfighmnnmeaaGreat.Ops Go.Proofs.YtgemfighmnnmeaaGreat.Ref
set_option linter.unusedVariables false
set_option linter.unusedSimpArgs false

theorem in_is (a b c : Int) : spec_l00In.f a b c = some (decide (b ≤ a ∧ a ≤ c)) := by
 unfold spec_l00In.f
 by_cases h : a ≥ b
 ·
  rw [if_pos h]; congr 1; apply decide_eq_decide.2; omega
 ·
  rw [if_neg h]; congr 1; symm; apply decide_eq_false; omega
theorem in_calls (a b c : Int) (W : World) : Calls Tryz.prog 61 #[.int .i64 a, .int .i64 b, .int .i64 c] W fun e w' => e = .returned (.bool (decide (b ≤ a ∧ a ≤ c))) ∧ ∃ q, w' = W.drewN q :=
 (spec_l00In.calls a b c _ W (in_is a b c)).mono fun e w' ⟨he, hd⟩ => ⟨he, hd.out⟩

theorem rises_loop (m : Int) (g : List Int) (hl : g.length ≤ 9223372036854775807) : ∀ (d n : Nat), n ≤ g.length → g.length - n = d →
  ∃ b, Ev (fun k => spec_l00Rises.l0 k g 0 m (n : Int)) b ∧ (b = true ↔ ∀ i, i < g.length → n ≤ i → (0 ≤ g.getD i 0 ∧ g.getD i 0 ≤ m) ∧ (0 < i → g.getD (i - 1) 0 < g.getD i 0)) := by
 intro d
 induction d with
 | zero =>
  intro n hn hd
  refine ⟨true, Ev.step (f := fun _ => some true) (fun k => by simp only [spec_l00Rises.l0]; rw [if_neg (by omega)]) (Ev.now true), ?_⟩
  simp only [true_iff]
  intro i hi h
  omega
 | succ d ih =>
  intro n hn hd
  have hlt : n < g.length := by omega
  obtain ⟨b, hb, hb'⟩ := ih (n + 1) (by omega) (by omega)
  have hw : wrap64 ((n : Int) + 1) = ((n + 1 : Nat) : Int) := by rw [wrap_id (by omega) (by omega)]; omega
  by_cases h1 : 0 ≤ g.getD n 0 ∧ g.getD n 0 ≤ m
  ·
   by_cases h2 : (n : Int) > 0
   ·
    have hp : wrap64 ((n : Int) - 1) = ((n - 1 : Nat) : Int) := by rw [wrap_id (by omega) (by omega)]; omega
    by_cases h3 : g.getD (n - 1) 0 ≥ g.getD n 0
    ·
     refine ⟨false, Ev.step (f := fun _ => some false) (fun k => ?_) (Ev.now false), ?_⟩
     ·
      simp only [spec_l00Rises.l0]
      rw [if_pos (by omega), if_pos (by omega), rd_nat, in_is, decide_eq_true h1]
      simp only [Option.bind_some, if_true]
      rw [if_pos h2, hp, if_pos (by omega), if_pos (by omega), rd_nat, if_pos h3]
     ·
      simp only [Bool.false_eq_true, false_iff]
      intro h
      have := (h n hlt (Nat.le_refl _)).2 (by omega)
      omega
    ·
     refine ⟨b, Ev.step (fun k => ?_) hb, hb'.trans ⟨fun h i hi hni => ?_, fun h i hi hni => h i hi (by omega)⟩⟩
     ·
      simp only [spec_l00Rises.l0]
      rw [if_pos (by omega), if_pos (by omega), rd_nat, in_is, decide_eq_true h1]
      simp only [Option.bind_some, if_true]
      rw [if_pos h2, hp, if_pos (by omega), if_pos (by omega), rd_nat, if_neg h3, hw]
     ·
      by_cases e : i = n
      ·
       subst e; exact ⟨h1, fun _ => by omega⟩
      ·
       exact h i hi (by omega)
   ·
    refine ⟨b, Ev.step (fun k => ?_) hb, hb'.trans ⟨fun h i hi hni => ?_, fun h i hi hni => h i hi (by omega)⟩⟩
    ·
     simp only [spec_l00Rises.l0]
     rw [if_pos (by omega), if_pos (by omega), rd_nat, in_is, decide_eq_true h1]
     simp only [Option.bind_some, if_true]
     rw [if_neg h2, hw]
    ·
     by_cases e : i = n
     ·
      subst e; exact ⟨h1, fun _ => by omega⟩
     ·
      exact h i hi (by omega)
  ·
   refine ⟨false, Ev.step (f := fun _ => some false) (fun k => ?_) (Ev.now false), ?_⟩
   ·
    simp only [spec_l00Rises.l0]
    rw [if_pos (by omega), if_pos (by omega), rd_nat, in_is, decide_eq_false h1]
    simp
   ·
    simp only [Bool.false_eq_true, false_iff]
    intro h
    exact h1 (h n hlt (Nat.le_refl _)).1
theorem group_ev (n : Nat) (hn : n ≤ 7) (g : List Int) (hl : g.length ≤ 9223372036854775807) : Ev (fun k => spec_l01Group.f k (n : Int) g) (decide (isGroupN n g)) := by
 obtain ⟨b, hb, hb'⟩ := rises_loop ((n : Int) - 1) g hl g.length 0 (by omega) (by omega)
 have : b = decide (isGroupN n g) := by
  rw [Bool.eq_iff_iff, hb', decide_eq_true_iff]
  unfold isGroupN
  rw [pairwise_adj]
  constructor
  ·
   intro h
   refine ⟨fun x hx => ?_, fun i hi h0 => (h i hi (by omega)).2 h0⟩
   obtain ⟨i, hi, rfl⟩ := List.mem_iff_getElem.1 hx
   have := (h i hi (by omega)).1
   rw [getD_of hi] at this
   omega
  ·
   rintro ⟨h1, h2⟩ i hi _
   rw [getD_of hi]
   refine ⟨by have := h1 _ (List.getElem_mem hi); omega, fun h0 => ?_⟩
   have := h2 i hi h0
   rwa [getD_of hi] at this
 rw [← this]
 unfold spec_l01Group.f spec_l00Rises.f
 rw [show wrap64 ((n : Int) - 1) = (n : Int) - 1 from wrap_id (by omega) (by omega)]
 exact Ev.bind (g := fun k => spec_l00Rises.l0 k g 0 ((n : Int) - 1) 0) hb (Ev.now b)
theorem group_calls (n : Nat) (hn : n ≤ 7) (A : Option Addr) (c : Nat) (g : List Int) (W : World) (hC : Kd.C (Kd.int .i64) W A g.length g) (hc : g.length ≤ c) :
  Calls Tryz.prog 71 #[.int .i64 (n : Int), .slice A g.length c] W fun e w' => e = .returned (.bool (decide (isGroupN n g))) ∧ ∃ q, w' = W.drewN q := by
 obtain ⟨k, hk⟩ := (group_ev n hn g hC.2.1).rounds
 exact (spec_l01Group.calls k (n : Int) A c g _ W hC hc hk).mono fun e w' ⟨he, hd⟩ => ⟨he, hd.out⟩
theorem inside_ev (a b : List Int) (hla : a.length ≤ 9223372036854775807) (hlb : b.length ≤ 9223372036854775807) (ha : ∀ x ∈ a, 0 ≤ x ∧ x < 7) (hb : ∀ x ∈ b, 0 ≤ x ∧ x < 7) : Ev (fun k => spec_l01Within.f k a b) (decide (bitsN a &&& bitsN b = bitsN a)) := by
 unfold spec_l01Within.f
 refine Ev.bind (bits_is a hla ha) (Ev.bind (bits_is b hlb hb) ?_)
 rw [and64 (bits_lt a ha) (bits_lt b hb)]
 have : ((((bitsN a &&& bitsN b : Nat)) : Int) == ((bitsN a : Nat) : Int)) = decide (bitsN a &&& bitsN b = bitsN a) := by
  rw [Bool.eq_iff_iff, beq_iff_eq, decide_eq_true_iff]
  omega
 rw [this]
 exact Ev.now _
theorem inside_calls (A A' : Option Addr) (c c' : Nat) (a b : List Int) (W : World) (hC : Kd.C (Kd.int .i64) W A a.length a) (hc : a.length ≤ c) (hC' : Kd.C (Kd.int .i64) W A' b.length b) (hc' : b.length ≤ c') (ha : ∀ x ∈ a, 0 ≤ x ∧ x < 7) (hb : ∀ x ∈ b, 0 ≤ x ∧ x < 7) :
  Calls Tryz.prog 73 #[.slice A a.length c, .slice A' b.length c'] W fun e w' => e = .returned (.bool (decide (bitsN a &&& bitsN b = bitsN a))) ∧ ∃ q, w' = W.drewN q := by
 obtain ⟨k, hk⟩ := (inside_ev a b hC.2.1 hC'.2.1 ha hb).rounds
 exact (spec_l01Within.calls k A c a A' c' b _ W hC hc hC' hc' hk).mono fun e w' ⟨he, hd⟩ => ⟨he, hd.out⟩

/-! ### what it asks -/
def Row1 (m : Nat) (gs : List (List Int)) (j : Nat) : Prop := isGroupN m (gs.getD j []) ∧ (0 < j → cmpL (gs.getD (j - 1) []) (gs.getD j []) < 0)
def Row2 (gs : List (List Int)) (a b : Nat) : Prop := a ≠ b → ¬ (bitsN (gs.getD a []) &&& bitsN (gs.getD b []) = bitsN (gs.getD a []))
theorem valid_rows (m : Nat) (hm : 1 ≤ m ∧ m ≤ 7) (gs : List (List Int)) : ValidF (m : Int) gs ↔ (∀ j, j < gs.length → Row1 m gs j) ∧ ∀ a, a < gs.length → ∀ b, b < gs.length → Row2 gs a b := by
 have hg := goods (n := m) (gs := gs)
 unfold ValidF
 rw [Int.toNat_natCast, ← hg]
 constructor
 ·
  rintro ⟨_, h⟩
  refine ⟨fun j hj => ⟨(h j (by omega) hj).1, (h j (by omega) hj).2.1⟩, fun a ha b hb hab => ?_⟩
  rcases Nat.lt_or_gt_of_ne hab with hl | hl
  ·
   have := ((h b (by omega) hb).2.2 a hl).2
   intro e
   apply this
   rw [Nat.and_comm]; exact e
  ·
   have := ((h a (by omega) ha).2.2 b hl).1
   intro e
   apply this
   rw [Nat.and_comm]; exact e
 ·
  rintro ⟨h1, h2⟩
  refine ⟨by omega, fun j _ hj => ⟨(h1 j hj).1, (h1 j hj).2, fun i hi => ⟨fun e => ?_, fun e => ?_⟩⟩⟩
  ·
   refine h2 j hj i (by omega) (by omega) ?_
   rw [Nat.and_comm]; exact e
  ·
   refine h2 i (by omega) j hj (by omega) ?_
   rw [Nat.and_comm]; exact e

/-- Element number i of a family's groups, as it is read. -/
theorem row_at {W : World} {A : Option Addr} {gs : List (List Int)} (h : dR.C W A gs.length gs) {i : Nat} (hi : i < gs.length) :
  ∃ ad A' c', A = some ad ∧ W.cell? (ad.add i) = some (.slice A' (gs.getD i []).length c') ∧ (gs.getD i []).length ≤ c' ∧ Kd.C (Kd.int .i64) W A' (gs.getD i []).length (gs.getD i []) := by
 obtain ⟨ad, v, e, hc, A', c', hv, hl, hC⟩ := elem_at (d := dR) rfl h i hi
 have hv' : v = .slice A' gs[i].length c' := by simpa using hv
 have hg : gs.getD i [] = gs[i] := getDg hi
 refine ⟨ad, A', c', e, ?_, ?_, ?_⟩
 ·
  rw [hc, hv', hg]
 ·
  rw [hg]; exact hl
 ·
  rw [hg]; exact hC

/-- The second half: every two rows, the one not within the other. -/
def Loop2 (gs : List (List Int)) (i : Nat) : Prop := ∀ a, a < i → ∀ b, b < gs.length → Row2 gs a b

set_option maxHeartbeats 8000000 in
set_option maxRecDepth 100000 in
theorem ok_yes (g m : Nat) (hm : 1 ≤ m ∧ m ≤ 7) (A : Option Addr) (cap : Nat) (gs : List (List Int)) (w : World) (hg0 : w.cell? ⟨g, 0, none⟩ = some (.int .i64 (m : Int))) (hg1 : w.cell? ⟨g, 1, none⟩ = some (.slice A gs.length cap)) (hC : dR.C w A gs.length gs) :
  Calls Tryz.prog 60 #[.pointer (some ⟨g, 0, none⟩)] w fun e w' => e = .returned (.bool (decide (ValidF (m : Int) gs))) ∧ Below w.heap.size w w' := by
 have hu := Tryz.underlying26
 have hbig : gs.length ≤ 9223372036854775807 := hC.2.1
 have HIN := fun W => in_calls (m : Int) 1 7 W
 rw [decide_eq_true (show (1 : Int) ≤ (m : Int) ∧ (m : Int) ≤ 7 by omega)] at HIN
 have HV := Aside0.mk (valid_rows m hm gs)
 have HL2 := Aside0.mk (show ∀ i, Loop2 gs i ↔ ∀ a, a < i → ∀ b, b < gs.length → Row2 gs a b from fun _ => Iff.rfl)
 generalize hVV : decide (ValidF (m : Int) gs) = vv at *
 have HVV := Aside0.mk hVV
 clear hVV
 have HR := Aside0.mk (fun (W : World) (hb : Below w.heap.size w W) (i : Nat) (hi : i < gs.length) => row_at (C_below hC hb) hi)
 have HM := Aside0.mk hm
 have HG0 := Aside0.mk hg0
 have HG1 := Aside0.mk hg1
 clear hC hm
 generalize hL : gs.length = L at *
 have HL := Aside0.mk hL
 clear hL
 go_enter Tryz.func60, Tryz.ntmps60
 go_wp2_with (go_at_call 61; refine (HIN _).mono ?_; clear hg0 hg1; rintro e w1 ⟨rfl, q1, hw1⟩; have HB1 := Aside0.mk (show Below w.heap.size w w1 by rw [hw1]; exact pw_below_drewN (Below.refl _ _) _); clear hw1)
 go_loopg [3] L (fun gg v3 wr => ∃ i : Nat, i ≤ L ∧ L - i ≤ gg ∧ v3 = .int .i64 (i : Int) ∧ Aside0 (Below w.heap.size w wr) ∧ Aside0 (∀ j, j < i → Row1 m gs j))
 case atStart => exact ⟨0, Nat.zero_le _, by omega, rfl, HB1, ⟨fun j hj => absurd hj (Nat.not_lt_zero _)⟩⟩
 case round =>
  clear HB1
  obtain ⟨i, hi, hgg, rfl, HB, HP⟩ := hrel
  have d0 := pw_cell_below HB.out HG0.out
  have d1 := pw_cell_below HB.out HG1.out
  by_cases hlt : i < L
  ·
   have hltz : (i : Int) < (L : Int) := by omega
   obtain ⟨ad, A1, c1, rfl, e1, le1, C1⟩ := HR.out wr HB.out i hlt
   have HGR := fun q => group_calls m (by have := HM.out; omega) A1 c1 (gs.getD i []) (wr.drewN q) (C_drewN C1 q) le1
   have LE1 := Aside0.mk le1
   have CC1 := Aside0.mk C1
   clear le1 C1
   cases hq : decide (isGroupN m (gs.getD i [])) with
   | false =>
    rw [hq] at HGR
    have HQ := Aside0.mk (show Row1 m gs i → False from fun h => by rw [decide_eq_true h.1] at hq; cases hq)
    clear hq CC1 LE1
    generalize gs.getD i [] = x at *
    go_wp2_with (fail)
    go_quiet (first | (go_at_call 71; exact Calls.quiet_of (HGR _)))
    go_wp2_with (fail)
    go_ret
    refine ⟨?_, by repeat (first | exact HB.out | apply pw_below_drewN)⟩
    rw [← HVV.out, decide_eq_false (fun h => HQ.out ((HV.out.1 h).1 i hlt))]
    rfl
   | true =>
    rw [hq] at HGR
    have HQ := Aside0.mk (of_decide_eq_true hq)
    clear hq
    by_cases hi0 : i = 0
    ·
     have hd : decide ((0 : Int) < (i : Int)) = false := decide_eq_false (by omega)
     have hd2 : decide (0 < i) = false := decide_eq_false (by omega)
     have HI0 := Aside0.mk hi0
     have HR1 := Aside0.mk (show Row1 m gs i from ⟨HQ.out, fun h => absurd h (by omega)⟩)
     clear hi0 HQ CC1 LE1
     generalize gs.getD i [] = x at *
     go_wp2_with (fail)
     go_quiet (first | (go_at_call 71; exact Calls.quiet_of (HGR _)))
     go_wp2_with (fail)
     go_roundg (L - (i + 1))
     case measure => omega
     case rel =>
      refine ⟨i + 1, by omega, by omega, by go_num, ⟨by repeat (first | exact HB.out | apply pw_below_drewN)⟩, ⟨fun j hj => ?_⟩⟩
      by_cases e : j = i
      ·
       subst e; exact HR1.out
      ·
       exact HP.out j (by omega)
    ·
     obtain ⟨j, hj⟩ : ∃ j, i = j + 1 := ⟨i - 1, by omega⟩
     obtain ⟨ad', A0, c0, e', e0, le0, C0⟩ := HR.out wr HB.out j (by omega)
     obtain rfl : ad = ad' := by injection e'
     clear e'
     have HBF := fun q => before_calls A0 A1 c0 c1 (gs.getD j []) (gs.getD i []) (wr.drewN q) (C_drewN C0 q) le0 (C_drewN CC1.out q) LE1.out
     clear C0 le0 CC1 LE1
     have HRX := Aside0.mk (show cmpL (gs.getD j []) (gs.getD i []) < 0 ↔ Row1 m gs i from ⟨fun h => ⟨HQ.out, fun _ => by rw [show i - 1 = j by omega]; exact h⟩, fun h => by have := h.2 (by omega); rwa [show i - 1 = j by omega] at this⟩)
     clear HQ
     have hb1 : decide ((0 : Int) < (i : Int)) = true := decide_eq_true (by omega)
     have hb2 : decide (0 < i) = true := decide_eq_true (by omega)
     have hb3 : (j : Int) < (L : Int) := by omega
     have hb5 : (0 : Int) ≤ (j : Int) := by omega
     have hb8 : (i : Int) - 1 = (j : Int) := by omega
     have hb7 : IntKind.i64.wrap (j : Int) = (j : Int) := IntWalk.i64_in _ (by omega)
     have HIJ := Aside0.mk hj
     clear hj hi0
     cases hq : decide (cmpL (gs.getD j []) (gs.getD i []) < 0) with
     | false =>
      rw [hq] at HBF
      have HQ := Aside0.mk (show Row1 m gs i → False from fun h => of_decide_eq_false hq (HRX.out.2 h))
      clear hq HRX
      generalize gs.getD j [] = x at *
      generalize gs.getD i [] = y at *
      go_wp2_with (fail)
      go_quiet (first | (go_at_call 71; exact Calls.quiet_of (HGR _)) | (go_at_call 72; exact Calls.quiet_of (HBF _)))
      go_wp2_with (fail)
      go_ret
      refine ⟨?_, by repeat (first | exact HB.out | apply pw_below_drewN)⟩
      rw [← HVV.out, decide_eq_false (fun h => HQ.out ((HV.out.1 h).1 _ hlt))]
      rfl
     | true =>
      rw [hq] at HBF
      have HQ := Aside0.mk (HRX.out.1 (of_decide_eq_true hq))
      clear hq HRX
      generalize gs.getD j [] = x at *
      generalize gs.getD i [] = y at *
      go_wp2_with (fail)
      go_quiet (first | (go_at_call 71; exact Calls.quiet_of (HGR _)) | (go_at_call 72; exact Calls.quiet_of (HBF _)))
      go_wp2_with (fail)
      clear hb8
      go_roundg (L - (i + 1))
      case measure => omega
      case rel =>
       refine ⟨i + 1, by omega, by omega, by go_num, ⟨by repeat (first | exact HB.out | apply pw_below_drewN)⟩, ⟨fun a ha => ?_⟩⟩
       by_cases e : a = i
       ·
        subst e; exact HQ.out
       ·
        exact HP.out a (by omega)
  ·
   have hltz : ¬ (i : Int) < (L : Int) := by omega
   obtain rfl : i = L := by omega
   clear hlt
   have HSM := Aside0.mk (show ∀ j, j < i → ∀ x ∈ gs.getD j [], 0 ≤ x ∧ x < 7 from fun j hj => small_of (by have := HM.out; omega) (HP.out j hj).1)
   go_wp2_with (fail)
   go_loopg [4, 5] i (fun gg v4 _ wr => ∃ a : Nat, a ≤ i ∧ i - a ≤ gg ∧ v4 = .int .i64 (a : Int) ∧ Aside0 (Below w.heap.size w wr) ∧ Aside0 (Loop2 gs a))
   case atStart => exact ⟨0, Nat.zero_le _, by omega, rfl, HB, ⟨fun a ha => absurd ha (Nat.not_lt_zero _)⟩⟩
   case round =>
    clear HB d0 d1
    obtain ⟨a, ha, hgg2, rfl, HB, HP2⟩ := hrel
    have d1 := pw_cell_below HB.out HG1.out
    by_cases hlt : a < i
    ·
     have hltz2 : (a : Int) < (i : Int) := by omega
     go_wp2_with (fail)
     go_loopg [5] i (fun g2 v5 w2 => ∃ b : Nat, b ≤ i ∧ i - b ≤ g2 ∧ v5 = .int .i64 (b : Int) ∧ Aside0 (Below w.heap.size w w2) ∧ Aside0 (∀ c, c < b → Row2 gs a c))
     case atStart => exact ⟨0, Nat.zero_le _, by omega, rfl, HB, ⟨fun c hc => absurd hc (Nat.not_lt_zero _)⟩⟩
     case round =>
      clear HB d1
      obtain ⟨b, hb, hg2, rfl, HB, HP3⟩ := hrel
      have d1 := pw_cell_below HB.out HG1.out
      by_cases hlt3 : b < i
      ·
       have hltz3 : (b : Int) < (i : Int) := by omega
       by_cases hab : a = b
       ·
        have hd : ((a : Int) != (b : Int)) = false := by rw [hab]; simp
        have hd2 : (a != b) = false := by rw [hab]; simp
        have HAB := Aside0.mk (show Row2 gs a b from fun h => absurd hab h)
        clear hab
        go_wp2_with (fail)
        go_quiet (fail)
        go_wp2_with (fail)
        go_roundg (i - (b + 1))
        case measure => omega
        case rel =>
         refine ⟨b + 1, by omega, by omega, by go_num, ⟨by repeat (first | exact HB.out | apply pw_below_drewN)⟩, ⟨fun c hc => ?_⟩⟩
         by_cases e : c = b
         ·
          subst e; exact HAB.out
         ·
          exact HP3.out c (by omega)
       ·
        obtain ⟨ad, A1, c1, rfl, e1, le1, C1⟩ := HR.out wr HB.out a hlt
        obtain ⟨ad', A2, c2, e', e2, le2, C2⟩ := HR.out wr HB.out b hlt3
        obtain rfl : ad = ad' := by injection e'
        clear e'
        have HIS := fun q => inside_calls A1 A2 c1 c2 (gs.getD a []) (gs.getD b []) (wr.drewN q) (C_drewN C1 q) le1 (C_drewN C2 q) le2 (HSM.out a hlt) (HSM.out b hlt3)
        clear C1 C2 le1 le2
        have hd : ((a : Int) != (b : Int)) = true := bne_iff_ne.2 (by omega)
        have hd2 : (a != b) = true := bne_iff_ne.2 hab
        have HRX := Aside0.mk (show ¬ (bitsN (gs.getD a []) &&& bitsN (gs.getD b []) = bitsN (gs.getD a [])) ↔ Row2 gs a b from ⟨fun h _ => h, fun h => h hab⟩)
        clear hab
        cases hq : decide (bitsN (gs.getD a []) &&& bitsN (gs.getD b []) = bitsN (gs.getD a [])) with
        | false =>
         rw [hq] at HIS
         have HQ := Aside0.mk (HRX.out.1 (of_decide_eq_false hq))
         clear hq HRX
         generalize gs.getD a [] = x at *
         generalize gs.getD b [] = y at *
         go_wp2_with (fail)
         go_quiet (first | (go_at_call 73; exact Calls.quiet_of (HIS _)))
         go_wp2_with (fail)
         go_roundg (i - (b + 1))
         case measure => omega
         case rel =>
          refine ⟨b + 1, by omega, by omega, by go_num, ⟨by repeat (first | exact HB.out | apply pw_below_drewN)⟩, ⟨fun c hc => ?_⟩⟩
          by_cases e : c = b
          ·
           subst e; exact HQ.out
          ·
           exact HP3.out c (by omega)
        | true =>
         rw [hq] at HIS
         have HQ := Aside0.mk (show Row2 gs a b → False from fun h => HRX.out.2 h (of_decide_eq_true hq))
         clear hq HRX
         generalize gs.getD a [] = x at *
         generalize gs.getD b [] = y at *
         go_wp2_with (fail)
         go_quiet (first | (go_at_call 73; exact Calls.quiet_of (HIS _)))
         go_wp2_with (fail)
         go_ret
         refine ⟨?_, by repeat (first | exact HB.out | apply pw_below_drewN)⟩
         rw [← HVV.out, decide_eq_false (fun h => HQ.out ((HV.out.1 h).2 a hlt b hlt3))]
         rfl
      ·
       have hltz3 : ¬ (b : Int) < (i : Int) := by omega
       obtain rfl : b = i := by omega
       go_wp2_with (fail)
       go_roundg (b - (a + 1))
       case measure => omega
       case rel =>
        refine ⟨a + 1, by omega, by omega, by go_num, HB, ⟨fun c hc => ?_⟩⟩
        by_cases e : c = a
        ·
         subst e; rw [HL.out]; exact HP3.out
        ·
         exact HP2.out c (by omega)
    ·
     have hltz2 : ¬ (a : Int) < (i : Int) := by omega
     obtain rfl : a = i := by omega
     go_wp2_with (fail)
     go_ret
     refine ⟨?_, HB.out⟩
     rw [← HVV.out, decide_eq_true (HV.out.2 ⟨HP.out, (HL2.out a).1 HP2.out⟩)]
     rfl

set_option maxHeartbeats 1000000 in
theorem ok_no (g : Nat) (n : Int) (hn : ¬ (1 ≤ n ∧ n ≤ 7)) (gs : List (List Int)) (w : World) (hg0 : w.cell? ⟨g, 0, none⟩ = some (.int .i64 n)) :
  Calls Tryz.prog 60 #[.pointer (some ⟨g, 0, none⟩)] w fun e w' => e = .returned (.bool (decide (ValidF n gs))) ∧ Below w.heap.size w w' := by
 have hu := Tryz.underlying26
 have HIN := fun W => in_calls n 1 7 W
 rw [decide_eq_false hn] at HIN
 rw [decide_eq_false (fun h => hn h.1)]
 clear hn
 go_enter Tryz.func60, Tryz.ntmps60
 go_wp2_with (go_at_call 61; refine (HIN _).mono ?_; clear hg0; rintro e w1 ⟨rfl, q1, rfl⟩)
 go_ret
 exact ⟨rfl, by repeat (first | exact Below.refl _ _ | apply pw_below_drewN)⟩

theorem ok_calls (g : Nat) (n : Int) (A : Option Addr) (cap : Nat) (gs : List (List Int)) (w : World) (hg0 : w.cell? ⟨g, 0, none⟩ = some (.int .i64 n)) (hg1 : w.cell? ⟨g, 1, none⟩ = some (.slice A gs.length cap)) (hC : dR.C w A gs.length gs) :
  Calls Tryz.prog 60 #[.pointer (some ⟨g, 0, none⟩)] w fun e w' => e = .returned (.bool (decide (ValidF n gs))) ∧ Below w.heap.size w w' := by
 by_cases hn : 1 ≤ n ∧ n ≤ 7
 ·
  obtain ⟨m, rfl⟩ : ∃ m : Nat, n = (m : Int) := ⟨n.toNat, by omega⟩
  exact ok_yes g m (by omega) A cap gs w hg0 hg1 hC
 ·
  exact ok_no g n hn gs w hg0

theorem okF_calls (g : Nat) (n : Int) (gs : List (List Int)) (r1 : Bool) (r2 : Int) (w0 w : World) (hI : IsS26 w0 w g n gs) (hB : Below w0.heap.size w0 w) (h : some (decide (ValidF n gs), n) = some (r1, r2)) :
  Calls Tryz.prog 60 #[.pointer (some ⟨g, 0, none⟩)] w fun e w' => e = .returned (.bool r1) ∧ IsS26 w0 w' g r2 gs ∧ Below w0.heap.size w0 w' ∧ KeepBut w w' g none := by
 obtain ⟨A, c, hb, hg, hC⟩ := hI
 obtain ⟨e1, e2⟩ := Prod.mk.inj (Option.some.inj h)
 subst e1; subst e2
 refine (ok_calls g n A c gs w ((blk_cell hb 0).trans rfl) ((blk_cell hb 1).trans rfl) (C_below hC hB)).mono ?_
 rintro e w' ⟨he, hb'⟩
 exact ⟨he, ⟨A, c, blk_below hb hb', hg, hC⟩, below_then hB hB.size hb', KeepBut.of_below hb' g none⟩

end Go.Proofs.YtgemfighmnnmeaaGreat.Ok
