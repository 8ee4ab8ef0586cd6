/- Contract of the program's isModule. -/
import Derived.Test.YtgemfighmnnmeaaGreatModF
import Derived.Test.YtgemfighmnnmeaaGreatCrowds
import Derived.Laws.Cover3
namespace Go.Proofs.YtgemfighmnnmeaaGreat.IsMod
open Go.RowKit Go.Lib Go.Proofs Go.Proofs.YtgemfighmnnmeaaGreatW.PrintWords Go.Proofs.YtgemfighmnnmeaaGreatW.PrintWords.Kd Go.Proofs.YtgemfighmnnmeaaGreatW.PrintLast Go.Proofs.YtgemfighmnnmeaaGreatW.PrintMore Go.Proofs.YtgemfighmnnmeaaGreat.G Go.Proofs.YtgemfighmnnmeaaGreat.Fam Go.Proofs.YtgemfighmnnmeaaGreat.Loops Go.Proofs.YtgemfighmnnmeaaGreat.Bits Go.Proofs.YtgemfighmnnmeaaGreat.Valid Go.Proofs.YtgemfighmnnmeaaGreat.FamLaw Go.Proofs.YtgemfighmnnmeaaGreat.Opens Go.Proofs.YtgemfighmnnmeaaGreat.Idx Go.Proofs.YtgemfighmnnmeaaGreat.Sorting Go.Proofs.YtgemfighmnnmeaaGreat.Crowds Go.Proofs.YtgemfighmnnmeaaGreat.FamOf Go.Proofs.YtgemfighmnnmeaaGreat.Ops Go.Proofs.YtgemfighmnnmeaaGreat.ModN Go.Proofs.YtgemfighmnnmeaaGreat.ModF Go.Proofs.YtgemfighmnnmeaaGreat.Ok Go.Proofs.YtgemfighmnnmeaaGreat.SDual Go.Proofs.YtgemfighmnnmeaaGreat.From Go.Proofs.YtgemfighmnnmeaaGreat.SOpen
set_option linter.unusedVariables false
set_option linter.unusedSimpArgs false

/-- The answers that were seen last where the group made a difference. -/
def OwnOk (W : World) (v : Value) (gs : List (List Int)) (g : List Int) (J : Nat) : Option Nat → Prop
 | none => v = .slice none 0 0
 | some x0 => ∃ (A : Addr) (cap : Nat), v = .slice (some A) (J + 1) cap ∧ J + 1 ≤ cap ∧ Kd.C Kd.bool W (some A) (J + 1) (ansL gs g x0)
theorem own_later {W W' : World} {v : Value} {gs : List (List Int)} {g : List Int} {J : Nat} {st : Option Nat} (h : OwnOk W v gs g J st) (hb : Below W.heap.size W W') : OwnOk W' v gs g J st := by
 cases st with
 | none => exact h
 | some x0 =>
  obtain ⟨A, c, h1, h2, h3⟩ := h
  exact ⟨A, c, h1, h2, Kd.C_below h3 hb⟩
/-- All who made a difference below c gave these answers. -/
def InvM (gs : List (List Int)) (g rs : List Int) (m : Nat) (c : Nat) : Option Nat → Prop
 | none => ∀ d, d < c → rel gs m (spreadN rs d) = false
 | some x0 => (∃ d, d < c ∧ x0 = spreadN rs d ∧ rel gs m x0 = true) ∧ ∀ d, d < c → rel gs m (spreadN rs d) = true → ansL gs g (spreadN rs d) = ansL gs g x0
theorem inv_skip {gs : List (List Int)} {g rs : List Int} {m c : Nat} {st : Option Nat} (h : InvM gs g rs m c st) (hr : rel gs m (spreadN rs c) = false) : InvM gs g rs m (c + 1) st := by
 cases st with
 | none =>
  intro d hd
  rcases Nat.lt_succ_iff_lt_or_eq.1 hd with h1 | h1
  ·
   exact h d h1
  ·
   subst h1; exact hr
 | some x0 =>
  obtain ⟨⟨d0, h0, h1⟩, h2⟩ := h
  refine ⟨⟨d0, by omega, h1⟩, fun d hd hrd => ?_⟩
  rcases Nat.lt_succ_iff_lt_or_eq.1 hd with h3 | h3
  ·
   exact h2 d h3 hrd
  ·
   subst h3; rw [hr] at hrd; cases hrd
theorem inv_first {gs : List (List Int)} {g rs : List Int} {m c : Nat} (h : InvM gs g rs m c none) (hr : rel gs m (spreadN rs c) = true) : InvM gs g rs m (c + 1) (some (spreadN rs c)) := by
 refine ⟨⟨c, by omega, rfl, hr⟩, fun d hd hrd => ?_⟩
 rcases Nat.lt_succ_iff_lt_or_eq.1 hd with h3 | h3
 ·
  rw [h d h3] at hrd; cases hrd
 ·
  subst h3; rfl
theorem inv_next {gs : List (List Int)} {g rs : List Int} {m c x0 : Nat} (h : InvM gs g rs m c (some x0)) (hr : rel gs m (spreadN rs c) = true) (he : ansL gs g x0 = ansL gs g (spreadN rs c)) : InvM gs g rs m (c + 1) (some (spreadN rs c)) := by
 obtain ⟨_, h2⟩ := h
 refine ⟨⟨c, by omega, rfl, hr⟩, fun d hd hrd => ?_⟩
 rcases Nat.lt_succ_iff_lt_or_eq.1 hd with h3 | h3
 ·
  rw [h2 d h3 hrd, he]
 ·
  subst h3; rfl
/-- A set outside the group, by its places in the rest. -/
theorem out_spread {n : Nat} (hn : n ≤ 7) {g : List Int} (hg : isGroupN n g) {x : Nat} (hx : x < 2 ^ n) (ho : x &&& bitsN g = 0) : ∃ d, d < 2 ^ (restG n g).length ∧ spreadN (restG n g) d = x := by
 have h1 := (out_iff (bitsN_lt hg.1) hx).1 ho
 rw [← restG_bits hn g] at h1
 exact ⟨partN (restG n g) x, part_lt _ _, spread_part h1⟩
theorem spread_out {n : Nat} (hn : n ≤ 7) {g : List Int} (hg : isGroupN n g) (d : Nat) : spreadN (restG n g) d < 2 ^ n ∧ spreadN (restG n g) d &&& bitsN g = 0 := by
 have h1 := spread_lt (restG_is hn g).1 d
 refine ⟨h1, (out_iff (bitsN_lt hg.1) h1).2 ?_⟩
 rw [← restG_bits hn g]
 exact spread_sub _ _
theorem inv_yes {n : Nat} (hn : n ≤ 7) {gs : List (List Int)} {g : List Int} (hg : isGroupN n g) {st : Option Nat} (h : InvM gs g (restG n g) (bitsN g) (2 ^ (restG n g).length) st) : agree gs (bitsN g) (2 ^ n) := by
 intro a b ha hb ra rb y hy
 unfold relO at ra rb
 simp only [Bool.and_eq_true, decide_eq_true_eq] at ra rb
 obtain ⟨da, hda, rfl⟩ := out_spread hn hg ha ra.1
 obtain ⟨db, hdb, rfl⟩ := out_spread hn hg hb rb.1
 cases st with
 | none => have := h da hda; rw [this] at ra; exact absurd ra.2 (by simp)
 | some x0 =>
  have h1 := h.2 da hda ra.2
  have h2 := h.2 db hdb rb.2
  exact ans_eq.1 (h1.trans h2.symm) y hy
theorem inv_no {n : Nat} (hn : n ≤ 7) {gs : List (List Int)} {g : List Int} (hg : isGroupN n g) {x0 c : Nat} (h : InvM gs g (restG n g) (bitsN g) c (some x0)) (hr : rel gs (bitsN g) (spreadN (restG n g) c) = true) (hne : ansL gs g x0 ≠ ansL gs g (spreadN (restG n g) c)) : ¬ agree gs (bitsN g) (2 ^ n) := by
 intro ha
 obtain ⟨⟨d, _, rfl, hrd⟩, _⟩ := h
 apply hne
 rw [ans_eq]
 have h1 := spread_out hn hg d
 have h2 := spread_out hn hg c
 exact ha _ _ h1.1 h2.1 (by unfold relO; rw [decide_eq_true h1.2, hrd]; rfl) (by unfold relO; rw [decide_eq_true h2.2, hr]; rfl)
theorem isMod_iff {n : Nat} {gs : List (List Int)} {g : List Int} (hg : isGroupN n g) (hpos : 0 < g.length) : isModB n gs g = true ↔ agree gs (bitsN g) (2 ^ n) := by
 unfold isModB
 rw [decide_eq_true hpos, Bool.true_and, agree_iff (bitsN_lt hg.1)]
theorem keep3 {w W : World} {a1 a2 : Addr} {v1 v2 : Value} (h1 : w.cell? a1 = some v1) (h2 : w.cell? a2 = some v2) (hb : Below w.heap.size w W) : W.cell? a1 = some v1 ∧ W.cell? a2 = some v2 ∧ Below w.heap.size w W := ⟨pw_cell_below hb h1, pw_cell_below hb h2, hb⟩
theorem ans_at {gs : List (List Int)} {g : List Int} {x J : Nat} (hJ : 2 ^ g.length = J + 1) : tb (ansL gs g x) 0 = openN gs x ∧ tb (ansL gs g x) J = openN gs (x ||| bitsN g) := by
 unfold ansL
 rw [tab_at (by omega), tab_at (by omega), spread_none, Nat.or_zero, show J = 2 ^ g.length - 1 by omega, spread_all]
 exact ⟨rfl, rfl⟩
theorem ans_len {gs : List (List Int)} {g : List Int} {x : Nat} : (ansL gs g x).length = 2 ^ g.length := tab_len _ _
/-- Answers that were made, by their cells. -/
theorem ans_made {gs : List (List Int)} {g : List Int} {x J : Nat} (hJ : 2 ^ g.length = J + 1) {W : World} {b : Nat} {v : Value} (h : Kd.R Kd.bool 4 W b (fun _ => True) v (ansL gs g x)) :
  ∃ (q cap : Nat), v = .slice (some ⟨q, 0, none⟩) (J + 1) cap ∧ J + 1 ≤ cap ∧ Kd.C Kd.bool W (some ⟨q, 0, none⟩) (J + 1) (ansL gs g x) ∧ W.cell? ⟨q, 0, none⟩ = some (.bool (openN gs x)) ∧ W.cell? ⟨q, J, none⟩ = some (.bool (openN gs (x ||| bitsN g))) := by
 have hl : (ansL gs g x).length = J + 1 := by rw [ans_len, hJ]
 obtain ⟨q, cap, e, _⟩ := Kd.R_form h (by omega)
 obtain ⟨A, c, e2, hc, hC⟩ := R_reads h
 rw [hl] at e2 hc e hC
 obtain ⟨rfl, rfl⟩ : A = some ⟨q, 0, none⟩ ∧ c = cap := by rw [e] at e2; injection e2 with h1 h2 h3; exact ⟨h1.symm, h3.symm⟩
 obtain ⟨h0, h1⟩ := ans_at (gs := gs) (g := g) (x := x) hJ
 obtain ⟨a0, r0, c0⟩ := tab_cell hC (i := 0) (by omega)
 obtain ⟨a1, r1, c1⟩ := tab_cell hC (i := J) (by omega)
 injection r0 with r0
 injection r1 with r1
 subst r0
 subst r1
 rw [h0] at c0
 rw [h1] at c1
 refine ⟨q, c, e2, hc, hC, by simpa [Addr.add] using c0, by
  by_cases e : J = 0
  ·
   subst e; simpa [Addr.add] using c1
  ·
   simpa [e, Addr.add] using c1⟩

set_option maxHeartbeats 8000000 in
set_option maxRecDepth 100000 in
theorem isModule_calls (n : Nat) (A : Option Addr) (cap : Nat) (gs : List (List Int)) (A' : Option Addr) (cap' : Nat) (g : List Int) (w : World) (hC : dR.C w A gs.length gs) (hcap : gs.length ≤ cap) (hC' : Kd.C (Kd.int .i64) w A' g.length g) (hcap' : g.length ≤ cap') (hv : ValidF (n : Int) gs) (hg : isGroupN n g) :
  Calls Tryz.prog 21 #[.agg #[.int .i64 (n : Int), .slice A gs.length cap], .slice A' g.length cap'] w fun e w' => e = .returned (.bool (isModB n gs g)) ∧ Below w.heap.size w w' := by
 have hu := Tryz.underlying26
 have hub := Tryz.underlying68
 have hn : n ≤ 7 := by have := hv.1; omega
 have hgl := glen hn hg
 by_cases hpos : 0 < g.length
 ·
  have hrl := glen hn (restG_is hn g)
  have hO := fun W (hb : Below w.heap.size w W) => others_calls hn A' cap' hg W (Kd.C_below hC' hb) hcap'
  have HBX := Aside0.mk (FamBox.new w (n : Int) A cap gs 26 hC)
  have HCG := Aside0.mk (fun W (hb : Below w.heap.size w W) => Kd.C_below hC' hb)
  have HCF := Aside0.mk (fun W (hb : Below w.heap.size w W) => C_below hC hb)
  obtain ⟨J, hJ⟩ : ∃ J, 2 ^ g.length = J + 1 := ⟨2 ^ g.length - 1, by have := Nat.two_pow_pos g.length; omega⟩
  have hJ7 : J < 128 := by have := two_pow_le (show g.length ≤ 7 by omega); omega
  have hmono : ∀ x, x < 2 ^ n → openN gs x = true → openN gs (x ||| bitsN g) = true := fun x hx hp =>
   openN_mono hn (fun a ha => by have := hv.2.1 a ha; simpa using this) x _ hx (Nat.or_lt_two_pow hx (bitsN_lt hg.1)) (by
    apply Nat.eq_of_testBit_eq
    intro i
    rw [Nat.testBit_and, Nat.testBit_or]
    cases x.testBit i <;> simp) hp
  have hsg := small_of hn hg
  have hss := smalls_of hv
  have HSO := Aside0.mk (fun c => spread_out hn hg c)
  have HYES := Aside0.mk (fun st => inv_yes (st := st) hn (gs := gs) hg)
  have HNO := Aside0.mk (fun x0 c => inv_no (x0 := x0) (c := c) hn (gs := gs) hg)
  have HIFF := Aside0.mk (isMod_iff (gs := gs) hg hpos)
  have hsr := small_of hn (restG_is hn g)
  have h7 := two_pow_le hn
  generalize hrs : restG n g = rs at *
  have HRS := Aside0.mk hrs
  have HEV := fun W => everybody_calls rs.length (by omega) W
  obtain ⟨M, hM⟩ : ∃ M, 2 ^ rs.length = M + 1 := ⟨2 ^ rs.length - 1, by have := Nat.two_pow_pos rs.length; omega⟩
  have hM7 : M + 1 ≤ 128 := by rw [← hM]; exact two_pow_le (by omega)
  rw [hM, Nat.add_sub_cancel] at HEV
  rw [hM] at HYES
  have HSP := fun c (hc : c ≤ M) W (B : Option Addr) cc h1 h2 => spread_calls B cc rs hsr (by omega) c (by omega) W h1 h2
  have HAN := fun x (hx : x < 128) W h1 h2 => ans_calls (n : Int) A cap gs hss A' cap' g hsg (by omega) x hx W h1 hcap h2 hcap'
  have hgz : ((g.length : Int) == 0) = false := beq_eq_false_iff_ne.mpr (by omega)
  have HM := Aside0.mk hM
  have HJ := Aside0.mk hJ
  have HMO := Aside0.mk hmono
  have HV := Aside0.mk hv
  have HG := Aside0.mk hg
  clear hC hC' hM hJ hmono hrs hv hg hsg hsr hss hpos
  go_enter Tryz.func21, Tryz.ntmps21
  go_wp2_with (go_at_call 25; refine (hO _ (below_alloc (Below.refl _ _) _)).mono ?_; rintro e w1 ⟨v1, rfl, hr1, hb1⟩; obtain ⟨A1, c1, rfl⟩ := R_slice hr1; have HX1 := Aside0.mk (HBX.out.later hb1); have HB1 := Aside0.mk (below_then (B := w.heap.size) (below_alloc (Below.refl _ _) _) (by simp) hb1); have HR1 := Aside0.mk (R_reads' hr1); clear hr1 hb1)
  go_loopg [5, 7] (M + 1) (fun gg v5 v7 wr => ∃ (c : Nat) (st : Option Nat) (u : Value), c ≤ M + 1 ∧ M + 1 - c ≤ gg ∧ v7 = .int .u64 (c : Int) ∧ u = v5 ∧ Aside0 (OwnOk wr u gs g J st) ∧ Aside0 (InvM gs g rs (bitsN g) c st) ∧ Aside0 (Below w1.heap.size w1 wr))
  case atStart => exact ⟨0, none, _, Nat.zero_le _, by omega, rfl, rfl, ⟨rfl⟩, ⟨fun d hd => absurd hd (Nat.not_lt_zero _)⟩, ⟨Below.refl _ _⟩⟩
  case round =>
   obtain ⟨c, st, u, hcM, hgg, rfl, rfl, HO, HI, HB⟩ := hrel
   have HXR := Aside0.mk (HX1.out.later HB.out)
   have HBW := Aside0.mk (below_then (B := w.heap.size) HB1.out HB1.out.size HB.out)
   by_cases hlt : c ≤ M
   ·
    have hle : (c : Int) ≤ (M : Int) := by omega
    have HS := HSP c hlt
    have hout := HSO.out c
    have hx128 : spreadN rs c < 128 := by omega
    have HA := HAN _ hx128
    have hmo := HMO.out _ hout.1
    have hrel_ : rel gs (bitsN g) (spreadN rs c) = (!openN gs (spreadN rs c) && openN gs (spreadN rs c ||| bitsN g)) := rfl
    have HSK := Aside0.mk (inv_skip HI.out)
    have HOUT := Aside0.mk hout
    clear hout
    generalize hx : spreadN rs c = x at *
    have HX := Aside0.mk hx
    clear hx
    cases hp : openN gs x with
    | true =>
     have hq := hmo hp
     rw [hp, hq] at hrel_
     have HP := Aside0.mk hp
     have HQ := Aside0.mk hq
     have HRL := Aside0.mk hrel_
     clear hp hq hrel_ hmo
     have cf0 := HXR.out.1
     have cf1 := HXR.out.2.1
     go_wp2_with (go_at_call 28; refine (HEV _).mono ?_; rintro e w' ⟨rfl, qe, rfl⟩)
     go_region_held3 (fun W => W.cell? ⟨w.heap.size, 0, none⟩ = some (.int .i64 (n : Int)) ∧ W.cell? ⟨w.heap.size, 1, none⟩ = some (.slice A gs.length cap) ∧ Below wr.heap.size wr W) ((refine keep3 HXR.out.1 HXR.out.2.1 ?_; repeat (first | assumption | exact Below.refl _ _ | apply below_drew | apply pw_below_drewN))) (first | (go_at_call 29; refine (HS _ A1 c1 (Kd.C_below HR1.out.2.2 (below_then HB.out HB.out.size ?_)) HR1.out.2.1).mono ?_; (repeat (first | assumption | exact Below.refl _ _ | apply below_drew | apply pw_below_drewN)); rintro e w' ⟨rfl, q, rfl⟩) | (go_at_call 48; refine (HA _ (HCF.out _ (below_then HBW.out HBW.out.size ?b1)) (HCG.out _ (below_then HBW.out HBW.out.size ?b2))).mono ?_; (case b1 => repeat (first | assumption | exact Below.refl _ _ | apply below_drew | apply pw_below_drewN)); (case b2 => repeat (first | assumption | exact Below.refl _ _ | apply below_drew | apply pw_below_drewN)); rintro e w9 ⟨v9, rfl, hr9, hb9⟩; obtain ⟨q9, c9, rfl, hc9, hC9, z0, z1⟩ := ans_made HJ.out hr9; rw [HP.out] at z0; rw [HQ.out] at z1; have HB9 := below_then (B := wr.heap.size) (show Below wr.heap.size wr _ from by repeat (first | assumption | exact Below.refl _ _ | apply below_drew | apply pw_below_drewN)) (by simp) hb9; have HC9 := Aside0.mk hC9; have Hc9 := Aside0.mk hc9; clear hb9 hC9 hc9 hr9))
     go_wp2_with (fail)
     have hw1 : IntKind.i64.wrap ((J : Int) + 1 - 1) = (J : Int) := by rw [show (J : Int) + 1 - 1 = (J : Int) by omega]; exact IntWalk.i64_in _ (by omega)
     have hw2 : IntKind.i64.wrap (J : Int) = (J : Int) := IntWalk.i64_in _ (by omega)
     have hj0 : (0 : Int) ≤ (J : Int) := Int.natCast_nonneg _
     have hj1 : J < J + 1 := Nat.lt_succ_self _
     have hj2 : 0 < J + 1 := Nat.succ_pos _
     go_quiet (fail)
     clear hw1 hw2
     go_wp2_with (fail)
     go_roundg (M + 1 - (c + 1))
     case measure => omega
     case rel => exact ⟨c + 1, st, _, by omega, by omega, by go_num, rfl, ⟨own_later HO.out (pw_below_drewN HB9 _)⟩, ⟨HSK.out HRL.out⟩, ⟨below_then HB.out HB.out.size (pw_below_drewN HB9 _)⟩⟩
    | false =>
     cases hq : openN gs (x ||| bitsN g) with
     | false =>
      rw [hp, hq] at hrel_
      have HP := Aside0.mk hp
      have HQ := Aside0.mk hq
      have HRL := Aside0.mk hrel_
      clear hp hq hrel_ hmo
      have cf0 := HXR.out.1
      have cf1 := HXR.out.2.1
      go_wp2_with (go_at_call 28; refine (HEV _).mono ?_; rintro e w' ⟨rfl, qe, rfl⟩)
      go_region_held3 (fun W => W.cell? ⟨w.heap.size, 0, none⟩ = some (.int .i64 (n : Int)) ∧ W.cell? ⟨w.heap.size, 1, none⟩ = some (.slice A gs.length cap) ∧ Below wr.heap.size wr W) ((refine keep3 HXR.out.1 HXR.out.2.1 ?_; repeat (first | assumption | exact Below.refl _ _ | apply below_drew | apply pw_below_drewN))) (first | (go_at_call 29; refine (HS _ A1 c1 (Kd.C_below HR1.out.2.2 (below_then HB.out HB.out.size ?_)) HR1.out.2.1).mono ?_; (repeat (first | assumption | exact Below.refl _ _ | apply below_drew | apply pw_below_drewN)); rintro e w' ⟨rfl, q, rfl⟩) | (go_at_call 48; refine (HA _ (HCF.out _ (below_then HBW.out HBW.out.size ?b1)) (HCG.out _ (below_then HBW.out HBW.out.size ?b2))).mono ?_; (case b1 => repeat (first | assumption | exact Below.refl _ _ | apply below_drew | apply pw_below_drewN)); (case b2 => repeat (first | assumption | exact Below.refl _ _ | apply below_drew | apply pw_below_drewN)); rintro e w9 ⟨v9, rfl, hr9, hb9⟩; obtain ⟨q9, c9, rfl, hc9, hC9, z0, z1⟩ := ans_made HJ.out hr9; rw [HP.out] at z0; rw [HQ.out] at z1; have HB9 := below_then (B := wr.heap.size) (show Below wr.heap.size wr _ from by repeat (first | assumption | exact Below.refl _ _ | apply below_drew | apply pw_below_drewN)) (by simp) hb9; have HC9 := Aside0.mk hC9; have Hc9 := Aside0.mk hc9; clear hb9 hC9 hc9 hr9))
      go_wp2_with (fail)
      have hw1 : IntKind.i64.wrap ((J : Int) + 1 - 1) = (J : Int) := by rw [show (J : Int) + 1 - 1 = (J : Int) by omega]; exact IntWalk.i64_in _ (by omega)
      have hw2 : IntKind.i64.wrap (J : Int) = (J : Int) := IntWalk.i64_in _ (by omega)
      have hj0 : (0 : Int) ≤ (J : Int) := Int.natCast_nonneg _
      have hj1 : J < J + 1 := Nat.lt_succ_self _
      have hj2 : 0 < J + 1 := Nat.succ_pos _
      go_quiet (fail)
      clear hw1 hw2
      go_wp2_with (fail)
      go_roundg (M + 1 - (c + 1))
      case measure => omega
      case rel => exact ⟨c + 1, st, _, by omega, by omega, by go_num, rfl, ⟨own_later HO.out (pw_below_drewN HB9 _)⟩, ⟨HSK.out HRL.out⟩, ⟨below_then HB.out HB.out.size (pw_below_drewN HB9 _)⟩⟩
     | true =>
      rw [hp, hq] at hrel_
      have HP := Aside0.mk hp
      have HQ := Aside0.mk hq
      have HRL := Aside0.mk hrel_
      clear hp hq hrel_ hmo
      cases st with
      | none =>
       obtain rfl : u = .slice none 0 0 := HO.out
       have cf0 := HXR.out.1
       have cf1 := HXR.out.2.1
       go_wp2_with (go_at_call 28; refine (HEV _).mono ?_; rintro e w' ⟨rfl, qe, rfl⟩)
       go_region_held3 (fun W => W.cell? ⟨w.heap.size, 0, none⟩ = some (.int .i64 (n : Int)) ∧ W.cell? ⟨w.heap.size, 1, none⟩ = some (.slice A gs.length cap) ∧ Below wr.heap.size wr W) ((refine keep3 HXR.out.1 HXR.out.2.1 ?_; repeat (first | assumption | exact Below.refl _ _ | apply below_drew | apply pw_below_drewN))) (first | (go_at_call 29; refine (HS _ A1 c1 (Kd.C_below HR1.out.2.2 (below_then HB.out HB.out.size ?_)) HR1.out.2.1).mono ?_; (repeat (first | assumption | exact Below.refl _ _ | apply below_drew | apply pw_below_drewN)); rintro e w' ⟨rfl, q, rfl⟩) | (go_at_call 48; refine (HA _ (HCF.out _ (below_then HBW.out HBW.out.size ?b1)) (HCG.out _ (below_then HBW.out HBW.out.size ?b2))).mono ?_; (case b1 => repeat (first | assumption | exact Below.refl _ _ | apply below_drew | apply pw_below_drewN)); (case b2 => repeat (first | assumption | exact Below.refl _ _ | apply below_drew | apply pw_below_drewN)); rintro e w9 ⟨v9, rfl, hr9, hb9⟩; obtain ⟨q9, c9, rfl, hc9, hC9, z0, z1⟩ := ans_made HJ.out hr9; rw [HP.out] at z0; rw [HQ.out] at z1; have HB9 := below_then (B := wr.heap.size) (show Below wr.heap.size wr _ from by repeat (first | assumption | exact Below.refl _ _ | apply below_drew | apply pw_below_drewN)) (by simp) hb9; have HC9 := Aside0.mk hC9; have Hc9 := Aside0.mk hc9; clear hb9 hC9 hc9 hr9))
       go_wp2_with (fail)
       have hw1 : IntKind.i64.wrap ((J : Int) + 1 - 1) = (J : Int) := by rw [show (J : Int) + 1 - 1 = (J : Int) by omega]; exact IntWalk.i64_in _ (by omega)
       have hw2 : IntKind.i64.wrap (J : Int) = (J : Int) := IntWalk.i64_in _ (by omega)
       have hj0 : (0 : Int) ≤ (J : Int) := Int.natCast_nonneg _
       have hj1 : J < J + 1 := Nat.lt_succ_self _
       have hj2 : 0 < J + 1 := Nat.succ_pos _
       go_quiet (fail)
       clear hw1 hw2
       go_wp2_with (fail)
       go_roundg (M + 1 - (c + 1))
       case measure => omega
       case rel => exact ⟨c + 1, some x, _, by omega, by omega, by go_num, rfl, ⟨_, _, rfl, Hc9.out, Kd.C_drewN HC9.out _⟩, ⟨by have h_ := inv_first HI.out (by rw [HX.out]; exact HRL.out); rwa [HX.out] at h_⟩, ⟨below_then HB.out HB.out.size (pw_below_drewN HB9 _)⟩⟩
      | some x0 =>
       obtain ⟨A5, c5, rfl, hc5, hC5⟩ := HO.out
       have HC5 := Aside0.mk hC5
       have Hc5 := Aside0.mk hc5
       clear hC5 hc5
       by_cases he : ansL gs g x0 = ansL gs g x
       ·
        have HE := Aside0.mk he
        have HEQ := fun W (B B' : Option Addr) cc cc' h1 h2 h3 h4 => equalB_calls B B' cc cc' (ansL gs g x0) (ansL gs g x) (by rw [ans_len, ans_len]) (by rw [ans_len, HJ.out]; omega) W h1 h2 h3 h4
        rw [decide_eq_true he, show (ansL gs g x0).length = J + 1 by rw [ans_len, HJ.out], show (ansL gs g x).length = J + 1 by rw [ans_len, HJ.out]] at HEQ
        clear he
        have cf0 := HXR.out.1
        have cf1 := HXR.out.2.1
        go_wp2_with (go_at_call 28; refine (HEV _).mono ?_; rintro e w' ⟨rfl, qe, rfl⟩)
        go_region_held3 (fun W => W.cell? ⟨w.heap.size, 0, none⟩ = some (.int .i64 (n : Int)) ∧ W.cell? ⟨w.heap.size, 1, none⟩ = some (.slice A gs.length cap) ∧ Below wr.heap.size wr W) ((refine keep3 HXR.out.1 HXR.out.2.1 ?_; repeat (first | assumption | exact Below.refl _ _ | apply below_drew | apply pw_below_drewN))) (first | (go_at_call 29; refine (HS _ A1 c1 (Kd.C_below HR1.out.2.2 (below_then HB.out HB.out.size ?_)) HR1.out.2.1).mono ?_; (repeat (first | assumption | exact Below.refl _ _ | apply below_drew | apply pw_below_drewN)); rintro e w' ⟨rfl, q, rfl⟩) | (go_at_call 48; refine (HA _ (HCF.out _ (below_then HBW.out HBW.out.size ?b1)) (HCG.out _ (below_then HBW.out HBW.out.size ?b2))).mono ?_; (case b1 => repeat (first | assumption | exact Below.refl _ _ | apply below_drew | apply pw_below_drewN)); (case b2 => repeat (first | assumption | exact Below.refl _ _ | apply below_drew | apply pw_below_drewN)); rintro e w9 ⟨v9, rfl, hr9, hb9⟩; obtain ⟨q9, c9, rfl, hc9, hC9, z0, z1⟩ := ans_made HJ.out hr9; rw [HP.out] at z0; rw [HQ.out] at z1; have HB9 := below_then (B := wr.heap.size) (show Below wr.heap.size wr _ from by repeat (first | assumption | exact Below.refl _ _ | apply below_drew | apply pw_below_drewN)) (by simp) hb9; have HC9 := Aside0.mk hC9; have Hc9 := Aside0.mk hc9; clear hb9 hC9 hc9 hr9))
        go_wp2_with (fail)
        have hw1 : IntKind.i64.wrap ((J : Int) + 1 - 1) = (J : Int) := by rw [show (J : Int) + 1 - 1 = (J : Int) by omega]; exact IntWalk.i64_in _ (by omega)
        have hw2 : IntKind.i64.wrap (J : Int) = (J : Int) := IntWalk.i64_in _ (by omega)
        have hj0 : (0 : Int) ≤ (J : Int) := Int.natCast_nonneg _
        have hj1 : J < J + 1 := Nat.lt_succ_self _
        have hj2 : 0 < J + 1 := Nat.succ_pos _
        go_quiet (fail)
        clear hw1 hw2
        go_wp2_with (go_at_call 49; refine (HEQ _ _ _ _ _ (Kd.C_below HC5.out (pw_below_drewN HB9 _)) Hc5.out (Kd.C_drewN HC9.out _) Hc9.out).mono ?_; rintro e w' ⟨rfl, q2, rfl⟩)
        go_roundg (M + 1 - (c + 1))
        case measure => omega
        case rel => exact ⟨c + 1, some x, _, by omega, by omega, by go_num, rfl, ⟨_, _, rfl, Hc9.out, Kd.C_drewN HC9.out _⟩, ⟨by have h_ := inv_next HI.out (by rw [HX.out]; exact HRL.out) (by rw [HX.out]; exact HE.out); rwa [HX.out] at h_⟩, ⟨below_then HB.out HB.out.size (pw_below_drewN HB9 _)⟩⟩
       ·
        have HE := Aside0.mk he
        have HEQ := fun W (B B' : Option Addr) cc cc' h1 h2 h3 h4 => equalB_calls B B' cc cc' (ansL gs g x0) (ansL gs g x) (by rw [ans_len, ans_len]) (by rw [ans_len, HJ.out]; omega) W h1 h2 h3 h4
        rw [decide_eq_false he, show (ansL gs g x0).length = J + 1 by rw [ans_len, HJ.out], show (ansL gs g x).length = J + 1 by rw [ans_len, HJ.out]] at HEQ
        clear he
        have cf0 := HXR.out.1
        have cf1 := HXR.out.2.1
        go_wp2_with (go_at_call 28; refine (HEV _).mono ?_; rintro e w' ⟨rfl, qe, rfl⟩)
        go_region_held3 (fun W => W.cell? ⟨w.heap.size, 0, none⟩ = some (.int .i64 (n : Int)) ∧ W.cell? ⟨w.heap.size, 1, none⟩ = some (.slice A gs.length cap) ∧ Below wr.heap.size wr W) ((refine keep3 HXR.out.1 HXR.out.2.1 ?_; repeat (first | assumption | exact Below.refl _ _ | apply below_drew | apply pw_below_drewN))) (first | (go_at_call 29; refine (HS _ A1 c1 (Kd.C_below HR1.out.2.2 (below_then HB.out HB.out.size ?_)) HR1.out.2.1).mono ?_; (repeat (first | assumption | exact Below.refl _ _ | apply below_drew | apply pw_below_drewN)); rintro e w' ⟨rfl, q, rfl⟩) | (go_at_call 48; refine (HA _ (HCF.out _ (below_then HBW.out HBW.out.size ?b1)) (HCG.out _ (below_then HBW.out HBW.out.size ?b2))).mono ?_; (case b1 => repeat (first | assumption | exact Below.refl _ _ | apply below_drew | apply pw_below_drewN)); (case b2 => repeat (first | assumption | exact Below.refl _ _ | apply below_drew | apply pw_below_drewN)); rintro e w9 ⟨v9, rfl, hr9, hb9⟩; obtain ⟨q9, c9, rfl, hc9, hC9, z0, z1⟩ := ans_made HJ.out hr9; rw [HP.out] at z0; rw [HQ.out] at z1; have HB9 := below_then (B := wr.heap.size) (show Below wr.heap.size wr _ from by repeat (first | assumption | exact Below.refl _ _ | apply below_drew | apply pw_below_drewN)) (by simp) hb9; have HC9 := Aside0.mk hC9; have Hc9 := Aside0.mk hc9; clear hb9 hC9 hc9 hr9))
        go_wp2_with (fail)
        have hw1 : IntKind.i64.wrap ((J : Int) + 1 - 1) = (J : Int) := by rw [show (J : Int) + 1 - 1 = (J : Int) by omega]; exact IntWalk.i64_in _ (by omega)
        have hw2 : IntKind.i64.wrap (J : Int) = (J : Int) := IntWalk.i64_in _ (by omega)
        have hj0 : (0 : Int) ≤ (J : Int) := Int.natCast_nonneg _
        have hj1 : J < J + 1 := Nat.lt_succ_self _
        have hj2 : 0 < J + 1 := Nat.succ_pos _
        go_quiet (fail)
        clear hw1 hw2
        go_wp2_with (go_at_call 49; refine (HEQ _ _ _ _ _ (Kd.C_below HC5.out (pw_below_drewN HB9 _)) Hc5.out (Kd.C_drewN HC9.out _) Hc9.out).mono ?_; rintro e w' ⟨rfl, q2, rfl⟩)
        go_ret
        refine ⟨?_, below_then HBW.out HBW.out.size (pw_below_drewN HB9 _)⟩
        have hno := HNO.out x0 c HI.out (by rw [HX.out]; exact HRL.out) (by rw [HX.out]; exact HE.out)
        rw [show isModB n gs g = false from by cases h_ : isModB n gs g with | false => rfl | true => exact absurd (HIFF.out.1 h_) hno]
        rfl
   ·
    obtain rfl : c = M + 1 := by omega
    have hle : ¬ (((M + 1 : Nat) : Int) ≤ (M : Int)) := by omega
    go_wp2_with (go_at_call 28; refine (HEV _).mono ?_; rintro e w' ⟨rfl, qe, rfl⟩)
    go_ret
    refine ⟨?_, pw_below_drewN HBW.out _⟩
    rw [HIFF.out.2 (HYES.out st HI.out)]
    rfl
 ·
  have h0 : g = [] := List.eq_nil_of_length_eq_zero (by omega)
  subst h0
  clear hC hC' hg hgl hv
  go_enter Tryz.func21, Tryz.ntmps21
  go_wp2_with (fail)
  go_ret
  exact ⟨rfl, below_alloc (Below.refl _ _) _⟩

def isModF (n : Int) (gs : List (List Int)) (g : List Int) : Option Bool := if ValidF n gs ∧ isGroupN n.toNat g then some (isModB n.toNat gs g) else none
theorem isModF_calls (n : Int) (A : Option Addr) (cap : Nat) (gs : List (List Int)) (A' : Option Addr) (cap' : Nat) (g : List Int) (r : Bool) (w : World) (hC : dR.C w A gs.length gs) (hcap : gs.length ≤ cap) (hC' : Kd.C (Kd.int .i64) w A' g.length g) (hcap' : g.length ≤ cap') (h : isModF n gs g = some r) :
  Calls Tryz.prog 21 #[.agg #[.int .i64 n, .slice A gs.length cap], .slice A' g.length cap'] w fun e w' => e = .returned (.bool r) ∧ Below w.heap.size w w' := by
 unfold isModF at h
 split at h
 ·
  rename_i hh
  obtain rfl := Option.some.inj h
  have hn : ((n.toNat : Nat) : Int) = n := by have := hh.1.1; omega
  have := isModule_calls n.toNat A cap gs A' cap' g w hC hcap hC' hcap' (by rw [hn]; exact hh.1) hh.2
  rwa [hn] at this
 ·
  cases h

end Go.Proofs.YtgemfighmnnmeaaGreat.IsMod
