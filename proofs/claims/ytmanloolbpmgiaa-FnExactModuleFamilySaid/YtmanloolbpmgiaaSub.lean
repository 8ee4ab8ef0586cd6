/- Contracts of the program's moduleCode and ModuleFamily. Contract of the program's ModuleFamily. Contracts of the program's ModuleFamily. Contracts of the reference's l02Spread and l02Asked. Contract of the reference's ModuleFamily. -/
import Derived.Test.YtmanloolbpmgiaaGx8
import Derived.Test.YtmanloolbpmgiaaModules
import Derived.Deep.RegionHeld3
import Derived.BigQuiet
import Derived.Outline
import Derived.Test.YtmanloolbpmgiaaModF
import Derived.Test.YtmanloolbpmgiaaTabs
namespace Go.Proofs.Ytmanloolbpmgiaa.Sub
open Go.RowKit Go.Lib Go.Proofs Go.Proofs.YtmanloolbpmgiaaW.PrintWords Go.Proofs.YtmanloolbpmgiaaW.PrintWords.Kd Go.Proofs.YtmanloolbpmgiaaW.PrintLast Go.Proofs.YtmanloolbpmgiaaW.PrintMore Go.Proofs.Ytmanloolbpmgiaa.G Go.Proofs.Ytmanloolbpmgiaa.Fam Go.Proofs.Ytmanloolbpmgiaa.Loops Go.Proofs.Ytmanloolbpmgiaa.Bits Go.Proofs.Ytmanloolbpmgiaa.Valid Go.Proofs.Ytmanloolbpmgiaa.FamLaw Go.Proofs.Ytmanloolbpmgiaa.Opens Go.Proofs.Ytmanloolbpmgiaa.Idx Go.Proofs.Ytmanloolbpmgiaa.Sorting Go.Proofs.Ytmanloolbpmgiaa.Crowds Go.Proofs.Ytmanloolbpmgiaa.FamOf Go.Proofs.Ytmanloolbpmgiaa.Ops Go.Proofs.Ytmanloolbpmgiaa.ModN Go.Proofs.Ytmanloolbpmgiaa.ModF Go.Proofs.Ytmanloolbpmgiaa.IsMod Go.Proofs.Ytmanloolbpmgiaa.Modules
set_option linter.unusedVariables false
set_option linter.unusedSimpArgs false

/-- The code of a family and a group that has to be a module. -/
def modCode (n : Int) (gs : List (List Int)) (g : List Int) : Int := if ValidF n gs then (if isGroupN n.toNat g then (if isModB n.toNat gs g = true then 0 else 4) else 2) else 1
theorem modCode_is (n : Int) (gs : List (List Int)) (g : List Int) (hl : gs.length ≤ 9223372036854775807) (hgl : ∀ x ∈ gs, x.length ≤ 9223372036854775807) (hg : g.length ≤ 9223372036854775807) : Ev (fun k => impl_moduleCode.f k n gs g) (modCode n gs g) := by
  unfold impl_moduleCode.f impl_IsModule.f modCode
  have hv := valid_is n gs hl hgl
  by_cases h1 : ValidF n gs
  · rw [if_pos h1]
    rw [decide_eq_true h1] at hv
    have hn : ((n.toNat : Nat) : Int) = n := by have := h1.1; omega
    have hgr : Ev (fun k => impl_isGroup.f k n g) (decide (isGroupN n.toNat g)) := ⟨g.length + 1, fun k hk => by
      have := isGroup_is n.toNat g k (by have := h1.1; omega) hg (by omega)
      rwa [hn] at this⟩
    by_cases h2 : isGroupN n.toNat g
    · rw [if_pos h2]
      rw [decide_eq_true h2] at hgr
      have hm : impl_Family_isModule.f n gs g = some (isModB n.toNat gs g) := by
        show isModF n gs g = _
        unfold isModF
        rw [if_pos ⟨h1, h2⟩]
      refine Ev.bind (a := (isModB n.toNat gs g, 0)) (Ev.bind hv ?_) ?_
      · simp only [if_true]
        refine Ev.bind hgr ?_
        simp only [if_true]
        rw [hm]
        exact Ev.now _
      · simp only [if_true]
        cases isModB n.toNat gs g with
        | true => simp only [if_true]; exact Ev.now _
        | false => simp only [Bool.false_eq_true, if_false]; exact Ev.now _
    · rw [if_neg h2]
      rw [decide_eq_false h2] at hgr
      refine Ev.bind (a := (false, 2)) (Ev.bind hv ?_) ?_
      · simp only [if_true]
        refine Ev.bind hgr ?_
        simp only [Bool.false_eq_true, if_false]
        exact Ev.now _
      · exact Ev.now _
  · rw [if_neg h1]
    rw [decide_eq_false h1] at hv
    refine Ev.bind (a := (false, 1)) (Ev.bind hv ?_) ?_
    · simp only [Bool.false_eq_true, if_false]
      exact Ev.now _
    · exact Ev.now _
theorem modCode_calls (n : Int) (A : Option Addr) (cap : Nat) (gs : List (List Int)) (A' : Option Addr) (cap' : Nat) (g : List Int) (W : World) (hC : dR.C W A gs.length gs) (hcap : gs.length ≤ cap) (hC' : Kd.C (Kd.int .i64) W A' g.length g) (hcap' : g.length ≤ cap') :
    Calls Try.prog 91 #[.agg #[.int .i64 n, .slice A gs.length cap], .slice A' g.length cap'] W fun e w' => e = .returned (.int .i64 (modCode n gs g)) ∧ Below W.heap.size W w' := by
  have hl := lens_of hC
  obtain ⟨k, hk⟩ := (modCode_is n gs g hl.1 hl.2 hC'.2.1).rounds
  exact impl_moduleCode.calls k n A cap gs A' cap' g _ W hC hcap hC' hcap' hk

/-- A row in a box. -/
def RowBox (W : World) (b : Nat) (A : Option Addr) (cap : Nat) (l : List Int) : Prop := W.cell? ⟨b, 0, none⟩ = some (.slice A l.length cap) ∧ Kd.C (Kd.int .i64) W A l.length l ∧ l.length ≤ cap
theorem RowBox.later {W W' : World} {b : Nat} {A : Option Addr} {cap : Nat} {l : List Int} (h : RowBox W b A cap l) (hb : Below W.heap.size W W') : RowBox W' b A cap l := ⟨pw_cell_below hb h.1, Kd.C_below h.2.1 hb, h.2.2⟩

/-! ### the part of a module -/
def subAt (gs : List (List Int)) (rs : List Int) (y d : Nat) : Bool := !openN gs (spreadN rs d) && openN gs (spreadN rs d ||| y)
def subP (n : Nat) (gs : List (List Int)) (g : List Int) (c : Nat) : Bool := ownP gs (bitsN g) (2 ^ n) (spreadN g c)
theorem sub_is {n : Nat} {gs : List (List Int)} (hv : ValidF (n : Int) gs) {g : List Int} (hg : isGroupN n g) (c : Nat) : (List.range (2 ^ (restG n g).length)).any (subAt gs (restG n g) (spreadN g c)) = subP n gs g c := by
  have hn : n ≤ 7 := by have := hv.1; omega
  have hm := bitsN_lt hg.1
  unfold subP ownP
  rw [Bool.eq_iff_iff, List.any_eq_true, List.any_eq_true]
  constructor
  · rintro ⟨d, _, h⟩
    unfold subAt at h
    simp only [Bool.and_eq_true, Bool.not_eq_true'] at h
    obtain ⟨h1, h2⟩ := spread_out hn hg d
    have h3 : openN gs (spreadN (restG n g) d ||| bitsN g) = true := by
      refine openN_mono hn (fun a ha => by have := hv.2.1 a ha; simpa using this) _ _ (Nat.or_lt_two_pow h1 (spread_lt hg.1 c)) (Nat.or_lt_two_pow h1 hm) ?_ h.2
      have hs := spread_sub g c
      apply Nat.eq_of_testBit_eq
      intro i
      have hi := congrArg (fun z => z.testBit i) hs
      simp only [Nat.testBit_and] at hi
      simp only [Nat.testBit_and, Nat.testBit_or]
      cases h4 : (spreadN g c).testBit i with
      | false => cases (spreadN (restG n g) d).testBit i <;> simp
      | true => rw [h4, Bool.and_true] at hi; rw [hi]; simp
    exact ⟨spreadN (restG n g) d, List.mem_range.2 h1, by unfold relO rel; rw [decide_eq_true h2, h.1, h3, h.2]; rfl⟩
  · rintro ⟨x, hx, h⟩
    unfold relO rel at h
    simp only [Bool.and_eq_true, Bool.not_eq_true', decide_eq_true_eq] at h
    obtain ⟨d, hd, rfl⟩ := out_spread hn hg (List.mem_range.1 hx) h.1.1
    exact ⟨d, List.mem_range.2 hd, by unfold subAt; rw [h.1.2.1, h.2]; rfl⟩

end Go.Proofs.Ytmanloolbpmgiaa.Sub

namespace Go.Proofs.Ytmanloolbpmgiaa.SubF
open Go.RowKit Go.Lib Go.Proofs Go.Proofs.YtmanloolbpmgiaaW.PrintWords Go.Proofs.YtmanloolbpmgiaaW.PrintWords.Kd Go.Proofs.YtmanloolbpmgiaaW.PrintLast Go.Proofs.YtmanloolbpmgiaaW.PrintMore Go.Proofs.Ytmanloolbpmgiaa.G Go.Proofs.Ytmanloolbpmgiaa.Fam Go.Proofs.Ytmanloolbpmgiaa.Loops Go.Proofs.Ytmanloolbpmgiaa.Bits Go.Proofs.Ytmanloolbpmgiaa.Valid Go.Proofs.Ytmanloolbpmgiaa.FamLaw Go.Proofs.Ytmanloolbpmgiaa.Opens Go.Proofs.Ytmanloolbpmgiaa.Idx Go.Proofs.Ytmanloolbpmgiaa.Sorting Go.Proofs.Ytmanloolbpmgiaa.Crowds Go.Proofs.Ytmanloolbpmgiaa.FamOf Go.Proofs.Ytmanloolbpmgiaa.Ops Go.Proofs.Ytmanloolbpmgiaa.ModN Go.Proofs.Ytmanloolbpmgiaa.ModF Go.Proofs.Ytmanloolbpmgiaa.IsMod Go.Proofs.Ytmanloolbpmgiaa.Modules Go.Proofs.Ytmanloolbpmgiaa.Sub
set_option linter.unusedVariables false
set_option linter.unusedSimpArgs false

theorem keep3 {w W : World} {a1 a2 a3 : Addr} {v1 v2 v3 : Value} (h1 : w.cell? a1 = some v1) (h2 : w.cell? a2 = some v2) (h3 : w.cell? a3 = some v3) (hb : Below w.heap.size w W) : W.cell? a1 = some v1 ∧ W.cell? a2 = some v2 ∧ W.cell? a3 = some v3 ∧ Below w.heap.size w W := ⟨pw_cell_below hb h1, pw_cell_below hb h2, pw_cell_below hb h3, hb⟩
set_option maxHeartbeats 8000000 in
set_option maxRecDepth 100000 in
theorem sub1_calls (n : Nat) (A : Option Addr) (cap : Nat) (gs : List (List Int)) (hcap : gs.length ≤ cap) (hv : ValidF (n : Int) gs) (g : List Int) (hg : isGroupN n g) (A' AR : Option Addr) (cap' cR : Nat) (BR BF BG : Nat) (W : World) (hR : RowBox W BR AR cR (restG n g)) (hF : FamBox W BF (n : Int) A cap gs) (hG : RowBox W BG A' cap' g) (c : Nat) (hc : c < 2 ^ g.length) :
    Calls Try.prog 93 #[.int .u64 (c : Int), .pointer (some ⟨BR, 0, none⟩), .pointer (some ⟨BF, 0, none⟩), .pointer (some ⟨BG, 0, none⟩)] W fun e w' => e = .returned (.bool (subP n gs g c)) ∧ Below W.heap.size W w' := by
  have hu := Try.underlying26
  have hn : n ≤ 7 := by have := hv.1; omega
  have hgl := glen hn hg
  have hrl := glen hn (restG_is hn g)
  have hss := smalls_of hv
  have hsr := small_of hn (restG_is hn g)
  have hsg := small_of hn hg
  have hc128 : c < 128 := Nat.lt_of_lt_of_le hc (two_pow_le (by omega))
  have hx128 : ∀ d, spreadN (restG n g) d < 128 := fun d => Nat.lt_of_lt_of_le (spread_lt (restG_is hn g).1 d) (two_pow_le hn)
  have hy128 : spreadN g c < 128 := Nat.lt_of_lt_of_le (spread_lt hg.1 c) (two_pow_le hn)
  have HSG := fun W h1 => spread_calls A' cap' g hsg (by omega) c hc128 W h1 hG.2.2
  rw [← sub_is hv hg c]
  generalize restG n g = rs at *
  generalize hy : spreadN g c = y at *
  have HEV := fun W => everybody_calls rs.length (by omega) W
  obtain ⟨M, hM⟩ : ∃ M, 2 ^ rs.length = M + 1 := ⟨2 ^ rs.length - 1, by have := Nat.two_pow_pos rs.length; omega⟩
  have hM7 : M + 1 ≤ 128 := by rw [← hM]; exact two_pow_le (by omega)
  rw [hM, Nat.add_sub_cancel] at HEV
  rw [hM]
  have HSP := fun d (hd : d ≤ M) W h1 => spread_calls AR cR rs hsr (by omega) d (by omega) W h1 hR.2.2
  have HOP := fun d (hd : d < 128) W h => opens_calls (n : Int) A cap gs d W h hcap hss hd
  have CR := Aside0.mk hR
  have CF := Aside0.mk hF
  have CG := Aside0.mk hG
  have HX := Aside0.mk hx128
  have HY := Aside0.mk hy128
  clear hR hF hG hv hg hss hsr hsg hM hx128 hy128 hy hc
  go_enter Try.func93, Try.ntmps93
  go_wp2_with (fail)
  go_loopg [6] (M + 1) (fun gg v6 wr => ∃ d : Nat, d ≤ M + 1 ∧ M + 1 - d ≤ gg ∧ v6 = .int .u64 (d : Int) ∧ Aside0 (Below W.heap.size W wr) ∧ Aside0 (∀ e, e < d → subAt gs rs y e = false))
  case atStart => exact ⟨0, Nat.zero_le _, by omega, rfl, ⟨Below.refl _ _⟩, ⟨fun e he => absurd he (Nat.not_lt_zero _)⟩⟩
  case round =>
    obtain ⟨d, hdM, hgg, rfl, HB, HA⟩ := hrel
    have ER := Aside0.mk (CR.out.later HB.out)
    have EF := Aside0.mk (CF.out.later HB.out)
    have EG := Aside0.mk (CG.out.later HB.out)
    have ECF : Aside0 (dR.C wr A gs.length gs) := ⟨EF.out.2.2⟩
    have cr0 := ER.out.1
    have cf0 := EF.out.1
    have cf1 := EF.out.2.1
    have cg0 := EG.out.1
    by_cases hlt : d ≤ M
    · have hle : (d : Int) ≤ (M : Int) := by omega
      have HS := HSP d hlt
      have hat : subAt gs rs y d = (!openN gs (spreadN rs d) && openN gs (spreadN rs d ||| y)) := rfl
      have hx := HX.out d
      generalize spreadN rs d = x at *
      have H1 := HOP x hx
      have H2 := HOP (x ||| y) (or128 hx HY.out)
      have hor := u64_or_nat x y (by omega) (by have := HY.out; omega)
      cases hp : openN gs x with
      | true =>
        rw [hp] at hat H1
        have HAT := Aside0.mk hat
        clear hat hp H2 hor
        go_wp2_with (first | (go_at_call 65; refine (HEV _).mono ?_; rintro e w' ⟨rfl, qe, rfl⟩) | (go_at_call 94; refine (HS _ (by repeat (first | exact ER.out.2.1 | apply C_drewN | apply C_drew))).mono ?_; rintro e w' ⟨rfl, qs, rfl⟩))
        first | (go_region_with (first | (go_at_call 61; (with_reducible refine (H1 _ (C_below ECF.out ?_)).mono ?_); (repeat (first | assumption | exact Below.refl _ _ | apply below_drew | apply pw_below_drewN)); rintro e w9 ⟨rfl, hb9⟩; have HB9 := below_then (B := wr.heap.size) (show Below wr.heap.size wr _ from by repeat (first | assumption | exact Below.refl _ _ | apply below_drew | apply pw_below_drewN)) (by simp) hb9; clear hb9))) | fail
        all_goals (
          go_wp2_with (fail)
          go_roundg (M + 1 - (d + 1))
          case measure => omega
          case rel =>
            refine ⟨d + 1, by omega, by omega, by go_num, ⟨below_then HB.out HB.out.size HB9⟩, ⟨fun e he => ?_⟩⟩
            rcases Nat.lt_succ_iff_lt_or_eq.1 he with h | h
            · exact HA.out e h
            · subst h; rw [HAT.out]; rfl)
      | false =>
        cases hq : openN gs (x ||| y) with
        | false =>
          rw [hp, hq] at hat
          rw [hp] at H1
          rw [hq] at H2
          have HAT := Aside0.mk hat
          clear hat hp hq
          go_wp2_with (first | (go_at_call 65; refine (HEV _).mono ?_; rintro e w' ⟨rfl, qe, rfl⟩) | (go_at_call 94; refine (HS _ (by repeat (first | exact ER.out.2.1 | apply C_drewN | apply C_drew))).mono ?_; rintro e w' ⟨rfl, qs, rfl⟩))
          go_region_held3 (fun V => V.cell? ⟨BF, 0, none⟩ = some (.int .i64 (n : Int)) ∧ V.cell? ⟨BF, 1, none⟩ = some (.slice A gs.length cap) ∧ V.cell? ⟨BG, 0, none⟩ = some (.slice A' g.length cap') ∧ Below wr.heap.size wr V) ((refine keep3 EF.out.1 EF.out.2.1 EG.out.1 ?_; repeat (first | assumption | exact Below.refl _ _ | apply below_drew | apply pw_below_drewN))) (first | (go_at_call 61; (with_reducible refine (H1 _ (C_below ECF.out ?_)).mono ?_); (repeat (first | assumption | exact Below.refl _ _ | apply below_drew | apply pw_below_drewN)); rintro e w9 ⟨rfl, hb9⟩; have HB9 := below_then (B := wr.heap.size) (show Below wr.heap.size wr _ from by repeat (first | assumption | exact Below.refl _ _ | apply below_drew | apply pw_below_drewN)) (by simp) hb9; clear hb9) | (go_at_call 94; refine (HSG _ (Kd.C_below EG.out.2.1 ?_)).mono ?_; (repeat (first | assumption | exact Below.refl _ _ | apply below_drew | apply pw_below_drewN)); rintro e w' ⟨rfl, qg, rfl⟩) | (go_at_call 61; (with_reducible refine (H2 _ (C_below ECF.out ?_)).mono ?_); (repeat (first | assumption | exact Below.refl _ _ | apply below_drew | apply pw_below_drewN)); rintro e w10 ⟨rfl, hb10⟩; have HB10 := below_then (B := wr.heap.size) (show Below wr.heap.size wr _ from by repeat (first | assumption | exact Below.refl _ _ | apply below_drew | apply pw_below_drewN)) (by have h_ := HB9.size; (try simp at h_ ⊢); omega) hb10; clear hb10))
          go_wp2_with (fail)
          go_roundg (M + 1 - (d + 1))
          case measure => omega
          case rel =>
            refine ⟨d + 1, by omega, by omega, by go_num, ⟨below_then HB.out HB.out.size HB10⟩, ⟨fun e he => ?_⟩⟩
            rcases Nat.lt_succ_iff_lt_or_eq.1 he with h | h
            · exact HA.out e h
            · subst h; rw [HAT.out]; rfl
        | true =>
          rw [hp, hq] at hat
          rw [hp] at H1
          rw [hq] at H2
          have HAT := Aside0.mk hat
          clear hat hp hq
          go_wp2_with (first | (go_at_call 65; refine (HEV _).mono ?_; rintro e w' ⟨rfl, qe, rfl⟩) | (go_at_call 94; refine (HS _ (by repeat (first | exact ER.out.2.1 | apply C_drewN | apply C_drew))).mono ?_; rintro e w' ⟨rfl, qs, rfl⟩))
          go_region_held3 (fun V => V.cell? ⟨BF, 0, none⟩ = some (.int .i64 (n : Int)) ∧ V.cell? ⟨BF, 1, none⟩ = some (.slice A gs.length cap) ∧ V.cell? ⟨BG, 0, none⟩ = some (.slice A' g.length cap') ∧ Below wr.heap.size wr V) ((refine keep3 EF.out.1 EF.out.2.1 EG.out.1 ?_; repeat (first | assumption | exact Below.refl _ _ | apply below_drew | apply pw_below_drewN))) (first | (go_at_call 61; (with_reducible refine (H1 _ (C_below ECF.out ?_)).mono ?_); (repeat (first | assumption | exact Below.refl _ _ | apply below_drew | apply pw_below_drewN)); rintro e w9 ⟨rfl, hb9⟩; have HB9 := below_then (B := wr.heap.size) (show Below wr.heap.size wr _ from by repeat (first | assumption | exact Below.refl _ _ | apply below_drew | apply pw_below_drewN)) (by simp) hb9; clear hb9) | (go_at_call 94; refine (HSG _ (Kd.C_below EG.out.2.1 ?_)).mono ?_; (repeat (first | assumption | exact Below.refl _ _ | apply below_drew | apply pw_below_drewN)); rintro e w' ⟨rfl, qg, rfl⟩) | (go_at_call 61; (with_reducible refine (H2 _ (C_below ECF.out ?_)).mono ?_); (repeat (first | assumption | exact Below.refl _ _ | apply below_drew | apply pw_below_drewN)); rintro e w10 ⟨rfl, hb10⟩; have HB10 := below_then (B := wr.heap.size) (show Below wr.heap.size wr _ from by repeat (first | assumption | exact Below.refl _ _ | apply below_drew | apply pw_below_drewN)) (by have h_ := HB9.size; (try simp at h_ ⊢); omega) hb10; clear hb10))
          go_wp2_with (fail)
          go_ret
          refine ⟨?_, below_then HB.out HB.out.size HB10⟩
          rw [show (List.range (M + 1)).any (subAt gs rs y) = true from List.any_eq_true.2 ⟨d, List.mem_range.2 (by omega), by rw [HAT.out]; rfl⟩]
          rfl
    · obtain rfl : d = M + 1 := by omega
      have hle : ¬ (((M + 1 : Nat) : Int) ≤ (M : Int)) := by omega
      go_wp2_with (go_at_call 65; refine (HEV _).mono ?_; rintro e w' ⟨rfl, qe, rfl⟩)
      go_ret
      refine ⟨?_, pw_below_drewN HB.out _⟩
      rw [show (List.range (M + 1)).any (subAt gs rs y) = false from List.any_eq_false.2 (fun e he => by rw [HA.out e (List.mem_range.1 he)]; simp)]
      rfl

end Go.Proofs.Ytmanloolbpmgiaa.SubF

namespace Go.Proofs.Ytmanloolbpmgiaa.SubM
open Go.RowKit Go.Lib Go.Proofs Go.Proofs.YtmanloolbpmgiaaW.PrintWords Go.Proofs.YtmanloolbpmgiaaW.PrintWords.Kd Go.Proofs.YtmanloolbpmgiaaW.PrintLast Go.Proofs.YtmanloolbpmgiaaW.PrintMore Go.Proofs.Ytmanloolbpmgiaa.G Go.Proofs.Ytmanloolbpmgiaa.Fam Go.Proofs.Ytmanloolbpmgiaa.Loops Go.Proofs.Ytmanloolbpmgiaa.Bits Go.Proofs.Ytmanloolbpmgiaa.Valid Go.Proofs.Ytmanloolbpmgiaa.FamLaw Go.Proofs.Ytmanloolbpmgiaa.Opens Go.Proofs.Ytmanloolbpmgiaa.Idx Go.Proofs.Ytmanloolbpmgiaa.Sorting Go.Proofs.Ytmanloolbpmgiaa.Crowds Go.Proofs.Ytmanloolbpmgiaa.FamOf Go.Proofs.Ytmanloolbpmgiaa.Ops Go.Proofs.Ytmanloolbpmgiaa.ModN Go.Proofs.Ytmanloolbpmgiaa.ModF Go.Proofs.Ytmanloolbpmgiaa.IsMod Go.Proofs.Ytmanloolbpmgiaa.Modules Go.Proofs.Ytmanloolbpmgiaa.Sub Go.Proofs.Ytmanloolbpmgiaa.SubF
set_option linter.unusedVariables false
set_option linter.unusedSimpArgs false

/-- The boxes of the two parameters and the result's variable. -/
def subW (w : World) (n : Int) (A : Option Addr) (cap : Nat) (gs : List (List Int)) (A' : Option Addr) (cap' : Nat) (g : List Int) : World :=
  ((w.alloc (.cells #[.int .i64 n, .slice A gs.length cap] 26)).alloc (.cells #[.slice A' g.length cap'] 28)).alloc (.cells #[.int .i64 0, .slice none 0 0] 26)
theorem subW_size (w : World) (n : Int) (A : Option Addr) (cap : Nat) (gs : List (List Int)) (A' : Option Addr) (cap' : Nat) (g : List Int) : (subW w n A cap gs A' cap' g).heap.size = w.heap.size + 1 + 1 + 1 := by simp [subW]
theorem subW_below (w : World) (n : Int) (A : Option Addr) (cap : Nat) (gs : List (List Int)) (A' : Option Addr) (cap' : Nat) (g : List Int) : Below w.heap.size w (subW w n A cap gs A' cap' g) := below_alloc (below_alloc (below_alloc (Below.refl _ _) _) _) _
theorem subW_boxes (w : World) (n : Int) (A : Option Addr) (cap : Nat) (gs : List (List Int)) (A' : Option Addr) (cap' : Nat) (g : List Int) (hC : dR.C w A gs.length gs) (hC' : Kd.C (Kd.int .i64) w A' g.length g) (hcap' : g.length ≤ cap') (W : World) (hb : Below (subW w n A cap gs A' cap' g).heap.size (subW w n A cap gs A' cap' g) W) :
    FamBox W w.heap.size n A cap gs ∧ RowBox W (w.heap.size + 1) A' cap' g ∧ W.heap[w.heap.size + 1 + 1]? = some (.cells #[.int .i64 0, .slice none 0 0] 26 (0, 0)) := by
  refine ⟨((FamBox.new w n A cap gs 26 hC).later (by unfold subW at *; exact below_alloc (below_alloc (Below.refl _ _) _) _)).later hb, ⟨?_, Kd.C_below (Kd.C_below hC' (subW_below w n A cap gs A' cap' g)) hb, hcap'⟩, ?_⟩
  · exact pw_cell_below hb ((blk_cell (blk_alloc (blk_at (by simp)) _) 0).trans rfl)
  · exact blk_below (blk_at (by simp)) hb

set_option maxHeartbeats 4000000 in
set_option maxRecDepth 100000 in
theorem ModuleFamily_bad (n : Int) (A : Option Addr) (cap : Nat) (gs : List (List Int)) (A' : Option Addr) (cap' : Nat) (g : List Int) (w : World) (hC : dR.C w A gs.length gs) (hcap : gs.length ≤ cap) (hC' : Kd.C (Kd.int .i64) w A' g.length g) (hcap' : g.length ≤ cap') (code : Int) (hm : modCode n gs g = code) (hc : code = 1 ∨ code = 2 ∨ code = 4) :
    Calls Try.prog 47 #[.agg #[.int .i64 n, .slice A gs.length cap], .slice A' g.length cap'] w (FamRes w 0 [] code) := by
  have hu := Try.underlying26
  have HV := fun W h h' => modCode_calls n A cap gs A' cap' g W h hcap h' hcap'
  rw [hm] at HV
  have HBX := Aside0.mk (subW_boxes w n A cap gs A' cap' g hC hC' hcap')
  have HWB := Aside0.mk (subW_below w n A cap gs A' cap' g)
  have HWS := Aside0.mk (subW_size w n A cap gs A' cap' g)
  have HCW := Aside0.mk (C_below hC HWB.out)
  have HGW := Aside0.mk (Kd.C_below hC' HWB.out)
  clear hC hC' hm
  rcases hc with rfl | rfl | rfl
  all_goals (
    go_enter Try.func47, Try.ntmps47
    go_wp2_with (fail)
    rw [show ((w.alloc (.cells #[.int .i64 n, .slice A gs.length cap] 26)).alloc (.cells #[.slice A' g.length cap'] 28)).alloc (.cells #[.int .i64 0, .slice none 0 0] 26) = subW w n A cap gs A' cap' g from rfl]
    go_wp2_with (go_at_call 91; refine (HV _ (C_below HCW.out ?_) (Kd.C_below HGW.out ?_)).mono ?_; (repeat (first | exact Below.refl _ _ | apply below_drew | apply pw_below_drewN)); rintro e w1 ⟨rfl, hb1⟩; have HB1 := Aside0.mk (below_then (B := (subW w n A cap gs A' cap' g).heap.size) (show Below (subW w n A cap gs A' cap' g).heap.size (subW w n A cap gs A' cap' g) _ from by repeat (first | exact Below.refl _ _ | apply below_drew | apply pw_below_drewN)) (by simp) hb1); clear hb1; have HX := Aside0.mk (HBX.out w1 HB1.out); have cf0 := HX.out.1.1; have cf1 := HX.out.1.2.1; have cg0 := HX.out.2.1.1; have z0 : w1.cell? ⟨w.heap.size + 1 + 1, 0, none⟩ = some (.int .i64 0) := (blk_cell HX.out.2.2 0).trans rfl; have z1 : w1.cell? ⟨w.heap.size + 1 + 1, 1, none⟩ = some (.slice none 0 0) := (blk_cell HX.out.2.2 1).trans rfl; have f0 := blk_frozen HX.out.2.2 0; have f1 := blk_frozen HX.out.2.2 1)
    have HZ := Aside0.mk HX.out.2.2
    have p0 := fun a b => put0 (a := a) (b := b) HZ.out
    have p1 := fun a b => put1 (a := a) (b := b) HZ.out
    have h1 : Below w.heap.size w w1 := below_then HWB.out (by have := HWS.out; omega) HB1.out
    refine bodyPost_ret (v := .tuple #[.agg #[.int .i64 0, .slice none 0 0], .int .i64 _]) (by simp [results, Try.results47, go_sem, p0, p1]) rfl ⟨_, rfl, S_nil _ _ _ _ _, ?_⟩
    exact below_set (below_set h1 (by omega)) (by omega))

set_option maxHeartbeats 4000000 in
set_option maxRecDepth 100000 in
theorem ModuleFamily_yes (n : Nat) (A : Option Addr) (cap : Nat) (gs : List (List Int)) (A' : Option Addr) (cap' : Nat) (g : List Int) (w : World) (hC : dR.C w A gs.length gs) (hcap : gs.length ≤ cap) (hC' : Kd.C (Kd.int .i64) w A' g.length g) (hcap' : g.length ≤ cap') (hm : modCode (n : Int) gs g = 0) (hv : ValidF (n : Int) gs) (hg : isGroupN n g) :
    Calls Try.prog 47 #[.agg #[.int .i64 (n : Int), .slice A gs.length cap], .slice A' g.length cap'] w (FamRes w (g.length : Int) (famN g.length (subP n gs g)) 0) := by
  have hu := Try.underlying26
  have hn : n ≤ 7 := by have := hv.1; omega
  have hgl := glen hn hg
  have eg : ∀ args w, (callFunc 93 args).run Try.prog w = .ok (.enter 93 args) w := enters_of Try.func93 (by kernel_rfl) rfl
  have HV := fun W h h' => modCode_calls (n : Int) A cap gs A' cap' g W h hcap h' hcap'
  rw [hm] at HV
  have hO := fun W h => others_calls hn A' cap' hg W h hcap'
  have HF := fun W BR AR cR (hR : RowBox W BR AR cR (restG n g)) (hF : FamBox W w.heap.size (n : Int) A cap gs) (hG : RowBox W (w.heap.size + 1) A' cap' g) => familyOf_calls g.length (by omega) 93 #[] #[.pointer (some ⟨BR, 0, none⟩), .pointer (some ⟨w.heap.size, 0, none⟩), .pointer (some ⟨w.heap.size + 1, 0, none⟩)] eg (subP n gs g) W
    (fun W' c hbw hc => sub1_calls n A cap gs hcap hv g hg A' AR cap' cR BR w.heap.size (w.heap.size + 1) W' (hR.later hbw) (hF.later hbw) (hG.later hbw) c hc)
  generalize hFF : famN g.length (subP n gs g) = F at *
  have HFF := Aside0.mk hFF
  have HBX := Aside0.mk (subW_boxes w (n : Int) A cap gs A' cap' g hC hC' hcap')
  have HWB := Aside0.mk (subW_below w (n : Int) A cap gs A' cap' g)
  have HWS := Aside0.mk (subW_size w (n : Int) A cap gs A' cap' g)
  have HCW := Aside0.mk (C_below hC HWB.out)
  have HGW := Aside0.mk (Kd.C_below hC' HWB.out)
  clear hC hC' hm hFF hg hv
  go_enter Try.func47, Try.ntmps47
  go_wp2_with (fail)
  rw [show ((w.alloc (.cells #[.int .i64 (n : Int), .slice A gs.length cap] 26)).alloc (.cells #[.slice A' g.length cap'] 28)).alloc (.cells #[.int .i64 0, .slice none 0 0] 26) = subW w (n : Int) A cap gs A' cap' g from rfl]
  go_wp2_with (go_at_call 91; refine (HV _ (C_below HCW.out ?_) (Kd.C_below HGW.out ?_)).mono ?_; (repeat (first | exact Below.refl _ _ | apply below_drew | apply pw_below_drewN)); rintro e w1 ⟨rfl, hb1⟩; have HB1 := Aside0.mk (below_then (B := (subW w (n : Int) A cap gs A' cap' g).heap.size) (show Below (subW w (n : Int) A cap gs A' cap' g).heap.size (subW w (n : Int) A cap gs A' cap' g) _ from by repeat (first | exact Below.refl _ _ | apply below_drew | apply pw_below_drewN)) (by simp) hb1); clear hb1; have HX := Aside0.mk (HBX.out w1 HB1.out); have cf0 := HX.out.1.1; have cf1 := HX.out.1.2.1; have cg0 := HX.out.2.1.1)
  clear cf0 cf1 cg0
  (refine (hO _ (Kd.C_below HX.out.2.1.2.1 ?_)).mono ?_; (repeat (first | exact Below.refl _ _ | apply below_drew | apply pw_below_drewN)); rintro e w3 ⟨v3, rfl, hr3, hb3⟩; obtain ⟨A3, c3, rfl⟩ := R_slice hr3)
  have HB3 := Aside0.mk (below_then (B := (subW w (n : Int) A cap gs A' cap' g).heap.size) (show Below (subW w (n : Int) A cap gs A' cap' g).heap.size (subW w (n : Int) A cap gs A' cap' g) _ from by repeat (first | exact HB1.out | apply below_drew | apply pw_below_drewN)) (by have h_ := HB1.out.size; (try simp at h_ ⊢); omega) hb3)
  have HR3 := Aside0.mk (R_reads' hr3)
  clear hr3 hb3
  obtain ⟨W5, hW5⟩ : ∃ W5 : World, W5 = w3.alloc (.cells #[.slice A3 (restG n g).length c3] 28) := ⟨_, rfl⟩
  have HB5 := Aside0.mk (show Below (subW w (n : Int) A cap gs A' cap' g).heap.size (subW w (n : Int) A cap gs A' cap' g) W5 by rw [hW5]; exact below_alloc HB3.out _)
  have HX5 := Aside0.mk (HBX.out W5 HB5.out)
  have HR5 : Aside0 (RowBox W5 w3.heap.size A3 c3 (restG n g)) := ⟨by rw [hW5]; exact ⟨(blk_cell (blk_new w3 _) 0).trans rfl, Kd.C_alloc HR3.out.2.2 _, HR3.out.2.1⟩⟩
  have HW5 := Aside0.mk hW5
  clear hW5
  have cg0 := HX5.out.2.1.1
  have cf0 := HX5.out.1.1
  have cf1 := HX5.out.1.2.1
  have HF5 := HF W5 w3.heap.size A3 c3 HR5.out HX5.out.1 HX5.out.2.1
  clear HF
  go_wp2_with (first | (rw [← HW5.out]; fail) | (rw [← HW5.out]) | fail)
  (refine HF5.mono ?_; clear HF5; rintro e w6 ⟨v6, rfl, hs6, hb6⟩; obtain ⟨A6, c6, rfl⟩ := S_slice hs6; have HS6 := Aside0.mk hs6; have HB6 := Aside0.mk (below_then HB5.out HB5.out.size hb6); clear hs6 hb6 cf0 cf1 cg0)
  have HZ := Aside0.mk (HBX.out _ HB6.out).2.2
  have z0 : w6.cell? ⟨w.heap.size + 1 + 1, 0, none⟩ = some (.int .i64 0) := (blk_cell HZ.out 0).trans rfl
  have z1 : w6.cell? ⟨w.heap.size + 1 + 1, 1, none⟩ = some (.slice none 0 0) := (blk_cell HZ.out 1).trans rfl
  have f0 := blk_frozen HZ.out 0
  have f1 := blk_frozen HZ.out 1
  go_wp2_with (fail)
  have p0 := fun a b => put0 (a := a) (b := b) HZ.out
  have p1 := fun a b => put1 (a := a) (b := b) HZ.out
  refine bodyPost_ret (v := .tuple #[.agg #[.int .i64 (g.length : Int), .slice A6 F.length c6], .int .i64 0]) (by simp [results, Try.results47, go_sem, p0, p1]) rfl ⟨_, rfl, S_put HZ.out (S_lower HS6.out (below_then HWB.out HWB.out.size HB5.out).size), ?_⟩
  exact below_set (below_set (below_then HWB.out HWB.out.size HB6.out) (by omega)) (by omega)

/-- What ModuleFamily answers. -/
def SubRes (n : Int) (gs : List (List Int)) (g : List Int) : Int × List (List Int) × Int :=
  if modCode n gs g = 0 then ((g.length : Int), famN g.length (subP n.toNat gs g), 0) else (0, [], modCode n gs g)
theorem modCode_cases (n : Int) (gs : List (List Int)) (g : List Int) : (modCode n gs g = 0 ∧ ValidF n gs ∧ isGroupN n.toNat g ∧ isModB n.toNat gs g = true) ∨ (modCode n gs g = 1 ∨ modCode n gs g = 2 ∨ modCode n gs g = 4) := by
  unfold modCode
  by_cases h1 : ValidF n gs
  · rw [if_pos h1]
    by_cases h2 : isGroupN n.toNat g
    · rw [if_pos h2]
      cases h3 : isModB n.toNat gs g with
      | true => exact .inl ⟨if_pos rfl, h1, h2, rfl⟩
      | false => exact .inr (.inr (.inr (if_neg (by simp))))
    · rw [if_neg h2]; exact .inr (.inr (.inl rfl))
  · rw [if_neg h1]; exact .inr (.inl rfl)
theorem ModuleFamily_calls (n : Int) (A : Option Addr) (cap : Nat) (gs : List (List Int)) (A' : Option Addr) (cap' : Nat) (g : List Int) (w : World) (hC : dR.C w A gs.length gs) (hcap : gs.length ≤ cap) (hC' : Kd.C (Kd.int .i64) w A' g.length g) (hcap' : g.length ≤ cap') :
    Calls Try.prog 47 #[.agg #[.int .i64 n, .slice A gs.length cap], .slice A' g.length cap'] w (FamRes w (SubRes n gs g).1 (SubRes n gs g).2.1 (SubRes n gs g).2.2) := by
  unfold SubRes
  rcases modCode_cases n gs g with ⟨h0, hv, hg, _⟩ | hc
  · rw [if_pos h0]
    have hr := hv.1
    obtain ⟨m, rfl⟩ : ∃ m : Nat, n = (m : Int) := ⟨n.toNat, by omega⟩
    rw [Int.toNat_natCast] at *
    exact ModuleFamily_yes m A cap gs A' cap' g w hC hcap hC' hcap' h0 hv hg
  · rw [if_neg (by omega)]
    exact ModuleFamily_bad n A cap gs A' cap' g w hC hcap hC' hcap' _ rfl hc

end Go.Proofs.Ytmanloolbpmgiaa.SubM

namespace Go.Proofs.Ytmanloolbpmgiaa.SSub
open Go.RowKit Go.Lib Go.Proofs Go.Proofs.YtmanloolbpmgiaaW.PrintWords Go.Proofs.YtmanloolbpmgiaaW.PrintWords.Kd Go.Proofs.YtmanloolbpmgiaaW.PrintLast Go.Proofs.YtmanloolbpmgiaaW.PrintMore Go.Proofs.Ytmanloolbpmgiaa.G Go.Proofs.Ytmanloolbpmgiaa.Fam Go.Proofs.Ytmanloolbpmgiaa.Loops Go.Proofs.Ytmanloolbpmgiaa.Bits Go.Proofs.Ytmanloolbpmgiaa.Sorting Go.Proofs.Ytmanloolbpmgiaa.Crowds Go.Proofs.Ytmanloolbpmgiaa.Sorted Go.Proofs.Ytmanloolbpmgiaa.Idx Go.Proofs.Ytmanloolbpmgiaa.Valid Go.Proofs.Ytmanloolbpmgiaa.FamLaw Go.Proofs.Ytmanloolbpmgiaa.Opens Go.Proofs.Ytmanloolbpmgiaa.Ops Go.Proofs.Ytmanloolbpmgiaa.From Go.Proofs.Ytmanloolbpmgiaa.Ref Go.Proofs.Ytmanloolbpmgiaa.Ok Go.Proofs.Ytmanloolbpmgiaa.SDual Go.Proofs.Ytmanloolbpmgiaa.ModN Go.Proofs.Ytmanloolbpmgiaa.ModF Go.Proofs.Ytmanloolbpmgiaa.SMod Go.Proofs.Ytmanloolbpmgiaa.Sub
set_option linter.unusedVariables false
set_option linter.unusedSimpArgs false
set_option maxRecDepth 100000

theorem wu_is : ∀ h : Nat, h < 7 → IntKind.u64.wrap (h : Int) = (h : Int) := by decide +kernel
theorem so_is : ∀ d : Nat, d < 128 → ∀ h : Nat, h < 7 → Go.bits .or .i64 (d : Int) (shl .i64 1 (h : Int)) = ((d ||| 1 <<< h : Nat) : Int) := by decide +kernel
theorem sbit_all : ∀ c : Fin 128, ∀ h : Fin 7, (Go.bits .and .i64 (shr .i64 ((c.val : Nat) : Int) ((h.val : Nat) : Int)) 1) = if c.val.testBit h.val then 1 else 0 := by decide +kernel
theorem shr_bit {c h : Nat} (hc : c < 128) (hh : h < 7) : (Go.bits .and .i64 (shr .i64 (c : Int) (h : Int)) 1) = if c.testBit h then 1 else 0 := sbit_all ⟨c, hc⟩ ⟨h, hh⟩
theorem sspread_loop (g : List Int) (hg : Small g) (hl : g.length ≤ 7) (c : Nat) (hc : c < 128) : ∀ (d i : Nat), i ≤ g.length → g.length - i = d → Ev (fun k => spec_l02Spread.l0 k g (c : Int) ((spreadK g c i : Nat) : Int) (i : Int)) ((spreadN g c : Nat) : Int) := by
  intro d
  induction d with
  | zero =>
    intro i hi hd
    obtain rfl : i = g.length := by omega
    refine Ev.step (f := fun _ => some ((spreadN g c : Nat) : Int)) (fun k => ?_) (Ev.now _)
    simp only [spec_l02Spread.l0]
    rw [if_neg (by omega)]
    rfl
  | succ d ih =>
    intro i hi hd
    have hlt : i < g.length := by omega
    have h1 := ih (i + 1) (by omega) (by omega)
    have hx := hg _ (getD_mem hlt)
    have hs := small_spread hg c hi
    have hw := wu_is i (by omega)
    rw [spreadK_succ] at h1
    cases ht : c.testBit i with
    | false =>
      rw [ht, if_neg (by simp)] at h1
      refine Ev.step (fun k => ?_) h1
      simp only [spec_l02Spread.l0]
      rw [if_pos (by omega), hw, if_pos (by omega), shr_bit hc (by omega), ht, if_neg (by simp), next_is (by omega)]
    | true =>
      rw [ht, if_pos rfl] at h1
      refine Ev.step (fun k => ?_) h1
      obtain ⟨y, hy⟩ : ∃ y : Nat, g.getD i 0 = (y : Int) := ⟨(g.getD i 0).toNat, by omega⟩
      simp only [spec_l02Spread.l0]
      rw [if_pos (by omega), hw, if_pos (by omega), shr_bit hc (by omega), ht, if_pos (by simp), if_pos (by omega), rd_nat, hy, wu_is y (by omega), if_pos (by omega), so_is _ hs y (by omega), Int.toNat_natCast, next_is (by omega)]
theorem sspread_calls (A : Option Addr) (cap : Nat) (g : List Int) (hg : Small g) (hl : g.length ≤ 7) (c : Nat) (hc : c < 128) (W : World) (hC : Kd.C (Kd.int .i64) W A g.length g) (hcap : g.length ≤ cap) :
    Calls Try.prog 89 #[.slice A g.length cap, .int .i64 (c : Int)] W fun e w' => e = .returned (.int .i64 ((spreadN g c : Nat) : Int)) ∧ ∃ q, w' = W.drewN q := by
  obtain ⟨k, hk⟩ := (show Ev (fun k => spec_l02Spread.f k g (c : Int)) ((spreadN g c : Nat) : Int) from sspread_loop g hg hl c hc g.length 0 (Nat.zero_le _) rfl).rounds
  exact (spec_l02Spread.calls k A cap g (c : Int) _ W hC hcap hk).mono fun e w' ⟨he, hd⟩ => ⟨he, hd.out⟩

/-- The table of a module's own parts. -/
def OwnTab (n : Nat) (gs : List (List Int)) (g : List Int) (own : List Bool) : Prop := own.length = 2 ^ n ∧ ∀ y, y < 2 ^ n → bitsN g &&& y = y → own.getD y false = ownP gs (bitsN g) (2 ^ n) y
theorem asked_is (n : Int) (gs : List (List Int)) (g : List Int) (hl : gs.length ≤ 9223372036854775807) (hgl : ∀ x ∈ gs, x.length ≤ 9223372036854775807) (hg : g.length ≤ 9223372036854775807) : ∃ own, Ev (fun k => spec_l02Asked.f k n gs g) (own, modCode n gs g, n) ∧ (modCode n gs g = 0 → OwnTab n.toNat gs g own) := by
  unfold modCode
  by_cases h1 : ValidF n gs
  · obtain ⟨m, rfl⟩ : ∃ m : Nat, n = (m : Int) := ⟨n.toNat, by have := h1.1; omega⟩
    have hn : m ≤ 7 := by have := h1.1; omega
    rw [if_pos h1, Int.toNat_natCast]
    have he := group_ev m hn g hg
    by_cases h2 : isGroupN m g
    · rw [if_pos h2]
      rw [decide_eq_true h2] at he
      obtain ⟨⟨r1, r2, r3⟩, hE, hr1, hr2, hr3⟩ := module_is h1 hgl hl h2
      simp only at hr1 hr2 hr3
      subst hr2
      cases hm : isModB m gs g with
      | true =>
        rw [hm] at hr1
        subst hr1
        refine ⟨r1, ?_, fun _ => hr3 ?_⟩
        · unfold spec_l02Asked.f
          simp only [spec_l01Ok.f, Option.bind_some, decide_eq_true h1, if_true]
          refine Ev.bind he ?_
          simp only [if_true]
          refine Ev.bind hE ?_
          simp only [if_true]
          exact Ev.now _
        · unfold isModB at hm
          rw [Bool.and_eq_true] at hm
          exact (agree_iff (bitsN_lt h2.1)).1 hm.2
      | false =>
        rw [hm] at hr1
        subst hr1
        refine ⟨[], ?_, fun h => absurd h (by simp)⟩
        unfold spec_l02Asked.f
        simp only [spec_l01Ok.f, Option.bind_some, decide_eq_true h1, if_true]
        refine Ev.bind he ?_
        simp only [if_true]
        refine Ev.bind hE ?_
        simp only [Bool.false_eq_true, if_false]
        exact Ev.now _
    · rw [if_neg h2]
      rw [decide_eq_false h2] at he
      refine ⟨[], ?_, fun h => absurd h (by simp)⟩
      unfold spec_l02Asked.f
      simp only [spec_l01Ok.f, Option.bind_some, decide_eq_true h1, if_true]
      refine Ev.bind he ?_
      simp only [Bool.false_eq_true, if_false]
      exact Ev.now _
  · rw [if_neg h1]
    refine ⟨[], ?_, fun h => absurd h (by simp)⟩
    unfold spec_l02Asked.f
    simp only [spec_l01Ok.f, Option.bind_some, decide_eq_false h1, Bool.false_eq_true, if_false]
    exact Ev.now _
theorem asked_calls (b : Nat) (n : Int) (gs : List (List Int)) (A1 : Option Addr) (c1 : Nat) (g : List Int) (w0 w : World) (hI : IsS26 w0 w b n gs) (hB : Below w0.heap.size w0 w) (hr1 : Kd.C (Kd.int .i64) w A1 g.length g) (hc1 : g.length ≤ c1) (hf1 : ∀ ad, A1 = some ad → 0 < g.length → ad.block ≠ b) :
    Calls Try.prog 88 #[.pointer (some ⟨b, 0, none⟩), .slice A1 g.length c1] w fun e w' => ∃ v own, e = .returned (.tuple #[v, .int .i64 (modCode n gs g)]) ∧ (modCode n gs g = 0 → OwnTab n.toNat gs g own) ∧ Kd.R Kd.bool 4 w' w.heap.size (fun _ => True) v own ∧ IsS26 w0 w' b n gs ∧ Below w0.heap.size w0 w' ∧ KeepBut w w' b none := by
  have hI' := hI
  obtain ⟨A, c, _, _, hC⟩ := hI'
  have hl := lens_of hC
  obtain ⟨own, hE, ho⟩ := asked_is n gs g hl.1 hl.2 hr1.2.1
  obtain ⟨k, hk⟩ := hE.rounds
  refine (spec_l02Asked.calls k b n gs A1 c1 g _ _ _ w0 w hI hB hr1 hc1 hf1 hk).mono ?_
  rintro e w' ⟨v, he, hr, hi, hb, hk⟩
  exact ⟨v, own, he, ho, hr, hi, hb, hk⟩

end Go.Proofs.Ytmanloolbpmgiaa.SSub

namespace Go.Proofs.Ytmanloolbpmgiaa.SSubM
open Go.RowKit Go.Lib Go.Proofs Go.Proofs.YtmanloolbpmgiaaW.PrintWords Go.Proofs.YtmanloolbpmgiaaW.PrintWords.Kd Go.Proofs.YtmanloolbpmgiaaW.PrintLast Go.Proofs.YtmanloolbpmgiaaW.PrintMore Go.Proofs.Ytmanloolbpmgiaa.G Go.Proofs.Ytmanloolbpmgiaa.Fam Go.Proofs.Ytmanloolbpmgiaa.Loops Go.Proofs.Ytmanloolbpmgiaa.Bits Go.Proofs.Ytmanloolbpmgiaa.Sorting Go.Proofs.Ytmanloolbpmgiaa.Crowds Go.Proofs.Ytmanloolbpmgiaa.Sorted Go.Proofs.Ytmanloolbpmgiaa.Idx Go.Proofs.Ytmanloolbpmgiaa.Valid Go.Proofs.Ytmanloolbpmgiaa.FamLaw Go.Proofs.Ytmanloolbpmgiaa.Opens Go.Proofs.Ytmanloolbpmgiaa.Ops Go.Proofs.Ytmanloolbpmgiaa.From Go.Proofs.Ytmanloolbpmgiaa.Ref Go.Proofs.Ytmanloolbpmgiaa.Ok Go.Proofs.Ytmanloolbpmgiaa.SDual Go.Proofs.Ytmanloolbpmgiaa.ModN Go.Proofs.Ytmanloolbpmgiaa.ModF Go.Proofs.Ytmanloolbpmgiaa.SMod Go.Proofs.Ytmanloolbpmgiaa.Sub Go.Proofs.Ytmanloolbpmgiaa.SubM Go.Proofs.Ytmanloolbpmgiaa.SSub
set_option linter.unusedVariables false
set_option linter.unusedSimpArgs false

/-- The boxes of the first parameter and the result's variable. -/
def sW (w : World) (n : Int) (A : Option Addr) (cap : Nat) (gs : List (List Int)) : World :=
  (w.alloc (.cells #[.int .i64 n, .slice A gs.length cap] 26)).alloc (.cells #[.int .i64 0, .slice none 0 0] 26)
theorem sW_below (w : World) (n : Int) (A : Option Addr) (cap : Nat) (gs : List (List Int)) : Below w.heap.size w (sW w n A cap gs) := below_alloc (below_alloc (Below.refl _ _) _) _
theorem sW_size (w : World) (n : Int) (A : Option Addr) (cap : Nat) (gs : List (List Int)) : (sW w n A cap gs).heap.size = w.heap.size + 1 + 1 := by simp [sW]
theorem sW_is (w : World) (n : Int) (A : Option Addr) (cap : Nat) (gs : List (List Int)) (hC : dR.C w A gs.length gs) : IsS26 w (sW w n A cap gs) w.heap.size n gs ∧ (sW w n A cap gs).heap[w.heap.size + 1]? = some (.cells #[.int .i64 0, .slice none 0 0] 26 (0, 0)) :=
  ⟨⟨A, cap, blk_alloc (blk_new w (.cells #[.int .i64 n, .slice A gs.length cap] 26)) (.cells #[.int .i64 0, .slice none 0 0] 26), Nat.le_refl _, hC⟩, blk_at (by simp)⟩
/-- A row that came in lies outside what is new. -/
theorem row_old {w : World} {A : Option Addr} {g : List Int} (h : Kd.C (Kd.int .i64) w A g.length g) (b : Nat) (hb : w.heap.size ≤ b) : ∀ ad, A = some ad → 0 < g.length → ad.block ≠ b := by
  intro ad ha hl e
  obtain ⟨ad', v, e', hc, _⟩ := elem_at (d := Kd.int .i64) rfl h 0 hl
  rw [ha] at e'
  injection e' with e'
  subst e'
  have h1 : ad.block < w.heap.size := World.block_lt_of_cell? w _ hc
  omega

theorem wu_is' {h : Nat} (hh : h ≤ 7) : IntKind.u64.wrap (h : Int) = (h : Int) := by rw [IntKind.wrap_u64]; omega
set_option maxHeartbeats 4000000 in
set_option maxRecDepth 100000 in
theorem SModuleFamily_bad (n : Int) (A : Option Addr) (cap : Nat) (gs : List (List Int)) (A' : Option Addr) (cap' : Nat) (g : List Int) (w : World) (hC : dR.C w A gs.length gs) (hcap : gs.length ≤ cap) (hC' : Kd.C (Kd.int .i64) w A' g.length g) (hcap' : g.length ≤ cap') (code : Int) (hm : modCode n gs g = code) (hc : code = 1 ∨ code = 2 ∨ code = 4) :
    Calls Try.prog 46 #[.agg #[.int .i64 n, .slice A gs.length cap], .slice A' g.length cap'] w (FamRes w 0 [] code) := by
  have hu := Try.underlying26
  have HV := asked_calls w.heap.size n gs A' cap' g w (sW w n A cap gs) (sW_is w n A cap gs hC).1 (sW_below w n A cap gs) (Kd.C_below hC' (sW_below w n A cap gs)) hcap' (row_old hC' _ (Nat.le_refl _))
  rw [hm] at HV
  have HZ0 := Aside0.mk (sW_is w n A cap gs hC).2
  clear hC hC' hm
  rcases hc with rfl | rfl | rfl
  all_goals (
    go_enter Try.func46, Try.ntmps46
    go_wp2_with (fail)
    rw [show (w.alloc (.cells #[.int .i64 n, .slice A gs.length cap] 26)).alloc (.cells #[.int .i64 0, .slice none 0 0] 26) = sW w n A cap gs from rfl]
    (refine HV.mono ?_; clear HV; rintro e w2 ⟨v2, own, rfl, _, hr2, hi2, hb2, hk2⟩; have HZ := Aside0.mk (hk2.blk HZ0.out (by omega) (by simp)); have z0 : w2.cell? ⟨w.heap.size + 1, 0, none⟩ = some (.int .i64 0) := (blk_cell HZ.out 0).trans rfl; have z1 : w2.cell? ⟨w.heap.size + 1, 1, none⟩ = some (.slice none 0 0) := (blk_cell HZ.out 1).trans rfl; have f0 := blk_frozen HZ.out 0; have f1 := blk_frozen HZ.out 1; obtain ⟨A2, c2, rfl⟩ := R_slice hr2; have HB2 := Aside0.mk hb2; clear hr2 hi2 hb2 hk2)
    go_wp2_with (fail)
    have p0 := fun a b => put0 (a := a) (b := b) HZ.out
    have p1 := fun a b => put1 (a := a) (b := b) HZ.out
    refine bodyPost_ret (v := .tuple #[.agg #[.int .i64 0, .slice none 0 0], .int .i64 _]) (by simp [results, Try.results46, go_sem, p0, p1]) rfl ⟨_, rfl, S_nil _ _ _ _ _, ?_⟩
    exact below_set (below_set HB2.out (by omega)) (by omega))

set_option maxHeartbeats 8000000 in
set_option maxRecDepth 100000 in
theorem SModuleFamily_yes (n : Nat) (A : Option Addr) (cap : Nat) (gs : List (List Int)) (A' : Option Addr) (cap' : Nat) (g : List Int) (w : World) (hC : dR.C w A gs.length gs) (hcap : gs.length ≤ cap) (hC' : Kd.C (Kd.int .i64) w A' g.length g) (hcap' : g.length ≤ cap') (hm : modCode (n : Int) gs g = 0) (hv : ValidF (n : Int) gs) (hg : isGroupN n g) :
    Calls Try.prog 46 #[.agg #[.int .i64 (n : Int), .slice A gs.length cap], .slice A' g.length cap'] w (FamRes w (g.length : Int) (famN g.length (subP n gs g)) 0) := by
  have hu := Try.underlying26
  have hut := Try.underlying91
  have hn : n ≤ 7 := by have := hv.1; omega
  have hgl := glen hn hg
  have h7 : 2 ^ g.length ≤ 128 := two_pow_le (by omega)
  have hsm := small_of hn hg
  have hpl := fun c => spread_lt hg.1 c
  have hps := fun c => spread_sub g c
  have HV := asked_calls w.heap.size (n : Int) gs A' cap' g w (sW w (n : Int) A cap gs) (sW_is w (n : Int) A cap gs hC).1 (sW_below w (n : Int) A cap gs) (Kd.C_below hC' (sW_below w (n : Int) A cap gs)) hcap' (row_old hC' _ (Nat.le_refl _))
  rw [hm, Int.toNat_natCast] at HV
  have HZ0 := Aside0.mk (sW_is w (n : Int) A cap gs hC).2
  have HF := fun W (A2 : Option Addr) cc hb hcc => FromF_calls (g.length : Int) A2 cc (tab (subP n gs g) (2 ^ g.length)) _ _ W hb hcc (from_tabF (n := g.length) (by omega) (subP n gs g))
  have HSP := fun c (hc : c < 2 ^ g.length) W h => sspread_calls A' cap' g hsm (by omega) c (by omega) W h hcap'
  have hsh : wrap64 (2 ^ g.length) = ((2 ^ g.length : Nat) : Int) := by
    rw [show (2 : Int) ^ g.length = ((2 ^ g.length : Nat) : Int) from by simp]
    generalize 2 ^ g.length = z at h7
    exact wrap_id (by omega) (by omega)
  have hwu : IntKind.u64.wrap (g.length : Int) = (g.length : Int) := wu_is' (by omega)
  have hfr : ∀ c own, OwnTab n gs g own → spreadN g c < own.length ∧ tb own (spreadN g c) = subP n gs g c := fun c own ho => ⟨by rw [ho.1]; exact hpl c, ho.2 _ (hpl c) (hps c)⟩
  have HFR := Aside0.mk hfr
  have HC' := Aside0.mk hC'
  clear hC hC' hm hv hg hsm hpl hps hfr
  generalize subP n gs g = P at *
  generalize hFF : famN g.length P = F at *
  have HFF := Aside0.mk hFF
  generalize hM : 2 ^ g.length = M at *
  have HM := Aside0.mk hM
  clear hFF hM
  go_enter Try.func46, Try.ntmps46
  go_wp2_with (fail)
  rw [show (w.alloc (.cells #[.int .i64 (n : Int), .slice A gs.length cap] 26)).alloc (.cells #[.int .i64 0, .slice none 0 0] 26) = sW w (n : Int) A cap gs from rfl]
  (refine HV.mono ?_; clear HV; rintro e w2 ⟨v2, own, rfl, ho2, hr2, hi2, hb2, hk2⟩; have HZ := Aside0.mk (hk2.blk HZ0.out (by omega) (by simp)); obtain ⟨A2, c2, rfl⟩ := R_slice hr2; have HB2 := Aside0.mk hb2; have HR2 := Aside0.mk (R_reads' hr2); have HO2 := Aside0.mk (ho2 (by trivial)); clear ho2 hr2 hi2 hb2 hk2)
  go_wp2_with (fail)
  go_loopg [8, 9] M (fun gg v8 v9 wr => ∃ (c : Nat) (u : Value), c ≤ M ∧ M - c ≤ gg ∧ v9 = .int .i64 (c : Int) ∧ u = v8 ∧ Aside0 (Kd.R Kd.bool 4 wr w2.heap.size (fun _ => True) u (tab P c)) ∧ Aside0 (Below w2.heap.size w2 wr))
  case atStart => exact ⟨0, _, Nat.zero_le _, by omega, rfl, rfl, ⟨S_R (S_empty Kd.bool _ w2 w2.heap.size (Nat.le_refl _))⟩, ⟨below_alloc (Below.refl _ _) _⟩⟩
  case round =>
    obtain ⟨c, u, hcM, hgg, rfl, rfl, HT, HB⟩ := hrel
    have HCG := Aside0.mk (Kd.C_below (Kd.C_below HC'.out HB2.out) HB.out)
    by_cases hlt : c < M
    · have hltz : (c : Int) < (M : Int) := by omega
      have hS := HSP c hlt
      have hx := HFR.out c own HO2.out
      have hoc := Kd.C_below HR2.out.2.2 HB.out
      generalize spreadN g c = x at *
      obtain ⟨ad, rfl, hc0⟩ := table_at hoc hx.1
      rw [hx.2] at hc0
      have hxz : (x : Int) < (own.length : Int) := by omega
      have htl := tab_len P c
      have HTL := Aside0.mk htl
      have HX := Aside0.mk hx
      clear hoc hx htl
      go_wp2_with (first | (go_at_call 89; refine (hS _ HCG.out).mono ?_; rintro e w' ⟨rfl, q, rfl⟩) | (at_builtin; refine R_append Kd.bool (w0 := w2) (W := wr.drewN q) w2.heap.size rfl (.tmp 28) (.tmp 35) 91 4 (.bool false) 1 rfl hut info4 rfl (by decide) (by decide) u (tab P c) (P c) [.bool (P c)] (fun _ => True) (fun _ => False) rfl rfl rfl (fun _ hk => hk.elim) (fun _ _ => trivial) (Kd.R_drewN HT.out q) (pw_below_drewN HB.out q) (pw_below_drewN HB.out q).size ?hl ?_; (case hl => have := HTL.out; omega); intro v6 w6 hR6 hB6 hg6 hat6; have HR6 := Aside0.mk hR6; have HB6 := Aside0.mk hB6; clear hR6 hB6 hg6 hat6))
      go_roundg (M - (c + 1))
      case measure => omega
      case rel => exact ⟨c + 1, _, by omega, by omega, by go_num, rfl, ⟨by rw [tab_succ]; exact HR6.out⟩, HB6⟩
    · have hltz : ¬ (c : Int) < (M : Int) := by omega
      obtain rfl : c = M := by omega
      obtain ⟨AT, cT, rfl⟩ := R_slice HT.out
      have HTR := Aside0.mk (R_reads' HT.out)
      go_wp2_with (go_at_call 90; refine (HF _ AT cT HTR.out.2.2 HTR.out.2.1).mono ?_; rintro e w6 ⟨v6, rfl, hs6, hb6⟩; obtain ⟨A6, c6, rfl⟩ := S_slice hs6; have HZ6 := Aside0.mk (blk_below (blk_below HZ.out HB.out) hb6); have z0 : w6.cell? ⟨w.heap.size + 1, 0, none⟩ = some (.int .i64 0) := (blk_cell HZ6.out 0).trans rfl; have z1 : w6.cell? ⟨w.heap.size + 1, 1, none⟩ = some (.slice none 0 0) := (blk_cell HZ6.out 1).trans rfl; have f0 := blk_frozen HZ6.out 0; have f1 := blk_frozen HZ6.out 1; have HS6 := Aside0.mk hs6; have HW := Aside0.mk (below_then HB2.out HB2.out.size HB.out); have HW6 := Aside0.mk (below_then HW.out HW.out.size hb6); clear hs6 hb6)
      have p0 := fun a b => put0 (a := a) (b := b) HZ6.out
      have p1 := fun a b => put1 (a := a) (b := b) HZ6.out
      refine bodyPost_ret (v := .tuple #[.agg #[.int .i64 (g.length : Int), .slice A6 F.length c6], .int .i64 0]) (by simp [results, Try.results46, go_sem, p0, p1]) rfl ⟨_, rfl, S_put HZ6.out (S_lower HS6.out HW.out.size), ?_⟩
      exact below_set (below_set HW6.out (by omega)) (by omega)
theorem SModuleFamily_calls (n : Int) (A : Option Addr) (cap : Nat) (gs : List (List Int)) (A' : Option Addr) (cap' : Nat) (g : List Int) (w : World) (hC : dR.C w A gs.length gs) (hcap : gs.length ≤ cap) (hC' : Kd.C (Kd.int .i64) w A' g.length g) (hcap' : g.length ≤ cap') :
    Calls Try.prog 46 #[.agg #[.int .i64 n, .slice A gs.length cap], .slice A' g.length cap'] w (FamRes w (SubRes n gs g).1 (SubRes n gs g).2.1 (SubRes n gs g).2.2) := by
  unfold SubRes
  rcases modCode_cases n gs g with ⟨h0, hv, hg, _⟩ | hc
  · rw [if_pos h0]
    have hr := hv.1
    obtain ⟨m, rfl⟩ : ∃ m : Nat, n = (m : Int) := ⟨n.toNat, by omega⟩
    rw [Int.toNat_natCast] at *
    exact SModuleFamily_yes m A cap gs A' cap' g w hC hcap hC' hcap' h0 hv hg
  · rw [if_neg (by omega)]
    exact SModuleFamily_bad n A cap gs A' cap' g w hC hcap hC' hcap' _ rfl hc

end Go.Proofs.Ytmanloolbpmgiaa.SSubM
