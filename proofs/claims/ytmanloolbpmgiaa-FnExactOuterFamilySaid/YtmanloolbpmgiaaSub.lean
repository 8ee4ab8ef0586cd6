/- Contracts of the program's moduleCode and ModuleFamily. Contracts of the reference's l02Spread and l02Asked. What ModuleFamily and OuterFamily have in common. -/
import Derived.Test.YtmanloolbpmgiaaGx8
import Derived.Test.YtmanloolbpmgiaaModules
import Derived.Test.YtmanloolbpmgiaaModF
namespace Go.Proofs.Ytmanloolbpmgiaa.Sub
open Go.RowKit Go.Lib Go.Proofs Go.Proofs.YtmanloolbpmgiaaW.PrintWords Go.Proofs.YtmanloolbpmgiaaW.PrintWords.Kd Go.Proofs.YtmanloolbpmgiaaW.PrintLast Go.Proofs.YtmanloolbpmgiaaW.PrintMore Go.Proofs.Ytmanloolbpmgiaa.G Go.Proofs.Ytmanloolbpmgiaa.Fam Go.Proofs.Ytmanloolbpmgiaa.Loops Go.Proofs.Ytmanloolbpmgiaa.Bits Go.Proofs.Ytmanloolbpmgiaa.Valid Go.Proofs.Ytmanloolbpmgiaa.FamLaw Go.Proofs.Ytmanloolbpmgiaa.Opens Go.Proofs.Ytmanloolbpmgiaa.Idx Go.Proofs.Ytmanloolbpmgiaa.Sorting Go.Proofs.Ytmanloolbpmgiaa.Crowds Go.Proofs.Ytmanloolbpmgiaa.FamOf Go.Proofs.Ytmanloolbpmgiaa.Ops Go.Proofs.Ytmanloolbpmgiaa.ModN Go.Proofs.Ytmanloolbpmgiaa.ModF Go.Proofs.Ytmanloolbpmgiaa.IsMod Go.Proofs.Ytmanloolbpmgiaa.Modules
set_option linter.unusedVariables false
set_option linter.unusedSimpArgs false

/-- The code of a family and a group that has to be a module. -/
def modCode (n : Int) (gs : List (List Int)) (g : List Int) : Int := if ValidF n gs then (if isGroupN n.toNat g then (if isModB n.toNat gs g = true then 0 else 4) else 2) else 1
theorem modCode_is (n : Int) (gs : List (List Int)) (g : List Int) (hl : gs.length ≤ 9223372036854775807) (hgl : ∀ x ∈ gs, x.length ≤ 9223372036854775807) (hg : g.length ≤ 9223372036854775807) : Ev (fun k => impl_moduleCode.f k n gs g) (modCode n gs g) := by
  unfold impl_moduleCode.f impl_IsModule.f modCode
  have hv := valid_is n gs hl hgl
  by_cases h1 : ValidF n gs
  · rw [if_pos h1]
    rw [decide_eq_true h1] at hv
    have hn : ((n.toNat : Nat) : Int) = n := by have := h1.1; omega
    have hgr : Ev (fun k => impl_isGroup.f k n g) (decide (isGroupN n.toNat g)) := ⟨g.length + 1, fun k hk => by
      have := isGroup_is n.toNat g k (by have := h1.1; omega) hg (by omega)
      rwa [hn] at this⟩
    by_cases h2 : isGroupN n.toNat g
    · rw [if_pos h2]
      rw [decide_eq_true h2] at hgr
      have hm : impl_Family_isModule.f n gs g = some (isModB n.toNat gs g) := by
        show isModF n gs g = _
        unfold isModF
        rw [if_pos ⟨h1, h2⟩]
      refine Ev.bind (a := (isModB n.toNat gs g, 0)) (Ev.bind hv ?_) ?_
      · simp only [if_true]
        refine Ev.bind hgr ?_
        simp only [if_true]
        rw [hm]
        exact Ev.now _
      · simp only [if_true]
        cases isModB n.toNat gs g with
        | true => simp only [if_true]; exact Ev.now _
        | false => simp only [Bool.false_eq_true, if_false]; exact Ev.now _
    · rw [if_neg h2]
      rw [decide_eq_false h2] at hgr
      refine Ev.bind (a := (false, 2)) (Ev.bind hv ?_) ?_
      · simp only [if_true]
        refine Ev.bind hgr ?_
        simp only [Bool.false_eq_true, if_false]
        exact Ev.now _
      · exact Ev.now _
  · rw [if_neg h1]
    rw [decide_eq_false h1] at hv
    refine Ev.bind (a := (false, 1)) (Ev.bind hv ?_) ?_
    · simp only [Bool.false_eq_true, if_false]
      exact Ev.now _
    · exact Ev.now _
theorem modCode_calls (n : Int) (A : Option Addr) (cap : Nat) (gs : List (List Int)) (A' : Option Addr) (cap' : Nat) (g : List Int) (W : World) (hC : dR.C W A gs.length gs) (hcap : gs.length ≤ cap) (hC' : Kd.C (Kd.int .i64) W A' g.length g) (hcap' : g.length ≤ cap') :
    Calls Try.prog 91 #[.agg #[.int .i64 n, .slice A gs.length cap], .slice A' g.length cap'] W fun e w' => e = .returned (.int .i64 (modCode n gs g)) ∧ Below W.heap.size W w' := by
  have hl := lens_of hC
  obtain ⟨k, hk⟩ := (modCode_is n gs g hl.1 hl.2 hC'.2.1).rounds
  exact impl_moduleCode.calls k n A cap gs A' cap' g _ W hC hcap hC' hcap' hk

/-- A row in a box. -/
def RowBox (W : World) (b : Nat) (A : Option Addr) (cap : Nat) (l : List Int) : Prop := W.cell? ⟨b, 0, none⟩ = some (.slice A l.length cap) ∧ Kd.C (Kd.int .i64) W A l.length l ∧ l.length ≤ cap
theorem RowBox.later {W W' : World} {b : Nat} {A : Option Addr} {cap : Nat} {l : List Int} (h : RowBox W b A cap l) (hb : Below W.heap.size W W') : RowBox W' b A cap l := ⟨pw_cell_below hb h.1, Kd.C_below h.2.1 hb, h.2.2⟩

/-! ### the part of a module -/
def subAt (gs : List (List Int)) (rs : List Int) (y d : Nat) : Bool := !openN gs (spreadN rs d) && openN gs (spreadN rs d ||| y)
def subP (n : Nat) (gs : List (List Int)) (g : List Int) (c : Nat) : Bool := ownP gs (bitsN g) (2 ^ n) (spreadN g c)
theorem sub_is {n : Nat} {gs : List (List Int)} (hv : ValidF (n : Int) gs) {g : List Int} (hg : isGroupN n g) (c : Nat) : (List.range (2 ^ (restG n g).length)).any (subAt gs (restG n g) (spreadN g c)) = subP n gs g c := by
  have hn : n ≤ 7 := by have := hv.1; omega
  have hm := bitsN_lt hg.1
  unfold subP ownP
  rw [Bool.eq_iff_iff, List.any_eq_true, List.any_eq_true]
  constructor
  · rintro ⟨d, _, h⟩
    unfold subAt at h
    simp only [Bool.and_eq_true, Bool.not_eq_true'] at h
    obtain ⟨h1, h2⟩ := spread_out hn hg d
    have h3 : openN gs (spreadN (restG n g) d ||| bitsN g) = true := by
      refine openN_mono hn (fun a ha => by have := hv.2.1 a ha; simpa using this) _ _ (Nat.or_lt_two_pow h1 (spread_lt hg.1 c)) (Nat.or_lt_two_pow h1 hm) ?_ h.2
      have hs := spread_sub g c
      apply Nat.eq_of_testBit_eq
      intro i
      have hi := congrArg (fun z => z.testBit i) hs
      simp only [Nat.testBit_and] at hi
      simp only [Nat.testBit_and, Nat.testBit_or]
      cases h4 : (spreadN g c).testBit i with
      | false => cases (spreadN (restG n g) d).testBit i <;> simp
      | true => rw [h4, Bool.and_true] at hi; rw [hi]; simp
    exact ⟨spreadN (restG n g) d, List.mem_range.2 h1, by unfold relO rel; rw [decide_eq_true h2, h.1, h3, h.2]; rfl⟩
  · rintro ⟨x, hx, h⟩
    unfold relO rel at h
    simp only [Bool.and_eq_true, Bool.not_eq_true', decide_eq_true_eq] at h
    obtain ⟨d, hd, rfl⟩ := out_spread hn hg (List.mem_range.1 hx) h.1.1
    exact ⟨d, List.mem_range.2 hd, by unfold subAt; rw [h.1.2.1, h.2]; rfl⟩

end Go.Proofs.Ytmanloolbpmgiaa.Sub

namespace Go.Proofs.Ytmanloolbpmgiaa.SSub
open Go.RowKit Go.Lib Go.Proofs Go.Proofs.YtmanloolbpmgiaaW.PrintWords Go.Proofs.YtmanloolbpmgiaaW.PrintWords.Kd Go.Proofs.YtmanloolbpmgiaaW.PrintLast Go.Proofs.YtmanloolbpmgiaaW.PrintMore Go.Proofs.Ytmanloolbpmgiaa.G Go.Proofs.Ytmanloolbpmgiaa.Fam Go.Proofs.Ytmanloolbpmgiaa.Loops Go.Proofs.Ytmanloolbpmgiaa.Bits Go.Proofs.Ytmanloolbpmgiaa.Sorting Go.Proofs.Ytmanloolbpmgiaa.Crowds Go.Proofs.Ytmanloolbpmgiaa.Sorted Go.Proofs.Ytmanloolbpmgiaa.Idx Go.Proofs.Ytmanloolbpmgiaa.Valid Go.Proofs.Ytmanloolbpmgiaa.FamLaw Go.Proofs.Ytmanloolbpmgiaa.Opens Go.Proofs.Ytmanloolbpmgiaa.Ops Go.Proofs.Ytmanloolbpmgiaa.From Go.Proofs.Ytmanloolbpmgiaa.Ref Go.Proofs.Ytmanloolbpmgiaa.Ok Go.Proofs.Ytmanloolbpmgiaa.SDual Go.Proofs.Ytmanloolbpmgiaa.ModN Go.Proofs.Ytmanloolbpmgiaa.ModF Go.Proofs.Ytmanloolbpmgiaa.SMod Go.Proofs.Ytmanloolbpmgiaa.Sub
set_option linter.unusedVariables false
set_option linter.unusedSimpArgs false
set_option maxRecDepth 100000

theorem wu_is : ∀ h : Nat, h < 7 → IntKind.u64.wrap (h : Int) = (h : Int) := by decide +kernel
theorem so_is : ∀ d : Nat, d < 128 → ∀ h : Nat, h < 7 → Go.bits .or .i64 (d : Int) (shl .i64 1 (h : Int)) = ((d ||| 1 <<< h : Nat) : Int) := by decide +kernel
theorem sbit_all : ∀ c : Fin 128, ∀ h : Fin 7, (Go.bits .and .i64 (shr .i64 ((c.val : Nat) : Int) ((h.val : Nat) : Int)) 1) = if c.val.testBit h.val then 1 else 0 := by decide +kernel
theorem shr_bit {c h : Nat} (hc : c < 128) (hh : h < 7) : (Go.bits .and .i64 (shr .i64 (c : Int) (h : Int)) 1) = if c.testBit h then 1 else 0 := sbit_all ⟨c, hc⟩ ⟨h, hh⟩
theorem sspread_loop (g : List Int) (hg : Small g) (hl : g.length ≤ 7) (c : Nat) (hc : c < 128) : ∀ (d i : Nat), i ≤ g.length → g.length - i = d → Ev (fun k => spec_l02Spread.l0 k g (c : Int) ((spreadK g c i : Nat) : Int) (i : Int)) ((spreadN g c : Nat) : Int) := by
  intro d
  induction d with
  | zero =>
    intro i hi hd
    obtain rfl : i = g.length := by omega
    refine Ev.step (f := fun _ => some ((spreadN g c : Nat) : Int)) (fun k => ?_) (Ev.now _)
    simp only [spec_l02Spread.l0]
    rw [if_neg (by omega)]
    rfl
  | succ d ih =>
    intro i hi hd
    have hlt : i < g.length := by omega
    have h1 := ih (i + 1) (by omega) (by omega)
    have hx := hg _ (getD_mem hlt)
    have hs := small_spread hg c hi
    have hw := wu_is i (by omega)
    rw [spreadK_succ] at h1
    cases ht : c.testBit i with
    | false =>
      rw [ht, if_neg (by simp)] at h1
      refine Ev.step (fun k => ?_) h1
      simp only [spec_l02Spread.l0]
      rw [if_pos (by omega), hw, if_pos (by omega), shr_bit hc (by omega), ht, if_neg (by simp), next_is (by omega)]
    | true =>
      rw [ht, if_pos rfl] at h1
      refine Ev.step (fun k => ?_) h1
      obtain ⟨y, hy⟩ : ∃ y : Nat, g.getD i 0 = (y : Int) := ⟨(g.getD i 0).toNat, by omega⟩
      simp only [spec_l02Spread.l0]
      rw [if_pos (by omega), hw, if_pos (by omega), shr_bit hc (by omega), ht, if_pos (by simp), if_pos (by omega), rd_nat, hy, wu_is y (by omega), if_pos (by omega), so_is _ hs y (by omega), Int.toNat_natCast, next_is (by omega)]
theorem sspread_calls (A : Option Addr) (cap : Nat) (g : List Int) (hg : Small g) (hl : g.length ≤ 7) (c : Nat) (hc : c < 128) (W : World) (hC : Kd.C (Kd.int .i64) W A g.length g) (hcap : g.length ≤ cap) :
    Calls Try.prog 89 #[.slice A g.length cap, .int .i64 (c : Int)] W fun e w' => e = .returned (.int .i64 ((spreadN g c : Nat) : Int)) ∧ ∃ q, w' = W.drewN q := by
  obtain ⟨k, hk⟩ := (show Ev (fun k => spec_l02Spread.f k g (c : Int)) ((spreadN g c : Nat) : Int) from sspread_loop g hg hl c hc g.length 0 (Nat.zero_le _) rfl).rounds
  exact (spec_l02Spread.calls k A cap g (c : Int) _ W hC hcap hk).mono fun e w' ⟨he, hd⟩ => ⟨he, hd.out⟩

/-- The table of a module's own parts. -/
def OwnTab (n : Nat) (gs : List (List Int)) (g : List Int) (own : List Bool) : Prop := own.length = 2 ^ n ∧ ∀ y, y < 2 ^ n → bitsN g &&& y = y → own.getD y false = ownP gs (bitsN g) (2 ^ n) y
theorem asked_is (n : Int) (gs : List (List Int)) (g : List Int) (hl : gs.length ≤ 9223372036854775807) (hgl : ∀ x ∈ gs, x.length ≤ 9223372036854775807) (hg : g.length ≤ 9223372036854775807) : ∃ own, Ev (fun k => spec_l02Asked.f k n gs g) (own, modCode n gs g, n) ∧ (modCode n gs g = 0 → OwnTab n.toNat gs g own) := by
  unfold modCode
  by_cases h1 : ValidF n gs
  · obtain ⟨m, rfl⟩ : ∃ m : Nat, n = (m : Int) := ⟨n.toNat, by have := h1.1; omega⟩
    have hn : m ≤ 7 := by have := h1.1; omega
    rw [if_pos h1, Int.toNat_natCast]
    have he := group_ev m hn g hg
    by_cases h2 : isGroupN m g
    · rw [if_pos h2]
      rw [decide_eq_true h2] at he
      obtain ⟨⟨r1, r2, r3⟩, hE, hr1, hr2, hr3⟩ := module_is h1 hgl hl h2
      simp only at hr1 hr2 hr3
      subst hr2
      cases hm : isModB m gs g with
      | true =>
        rw [hm] at hr1
        subst hr1
        refine ⟨r1, ?_, fun _ => hr3 ?_⟩
        · unfold spec_l02Asked.f
          simp only [spec_l01Ok.f, Option.bind_some, decide_eq_true h1, if_true]
          refine Ev.bind he ?_
          simp only [if_true]
          refine Ev.bind hE ?_
          simp only [if_true]
          exact Ev.now _
        · unfold isModB at hm
          rw [Bool.and_eq_true] at hm
          exact (agree_iff (bitsN_lt h2.1)).1 hm.2
      | false =>
        rw [hm] at hr1
        subst hr1
        refine ⟨[], ?_, fun h => absurd h (by simp)⟩
        unfold spec_l02Asked.f
        simp only [spec_l01Ok.f, Option.bind_some, decide_eq_true h1, if_true]
        refine Ev.bind he ?_
        simp only [if_true]
        refine Ev.bind hE ?_
        simp only [Bool.false_eq_true, if_false]
        exact Ev.now _
    · rw [if_neg h2]
      rw [decide_eq_false h2] at he
      refine ⟨[], ?_, fun h => absurd h (by simp)⟩
      unfold spec_l02Asked.f
      simp only [spec_l01Ok.f, Option.bind_some, decide_eq_true h1, if_true]
      refine Ev.bind he ?_
      simp only [Bool.false_eq_true, if_false]
      exact Ev.now _
  · rw [if_neg h1]
    refine ⟨[], ?_, fun h => absurd h (by simp)⟩
    unfold spec_l02Asked.f
    simp only [spec_l01Ok.f, Option.bind_some, decide_eq_false h1, Bool.false_eq_true, if_false]
    exact Ev.now _
theorem asked_calls (b : Nat) (n : Int) (gs : List (List Int)) (A1 : Option Addr) (c1 : Nat) (g : List Int) (w0 w : World) (hI : IsS26 w0 w b n gs) (hB : Below w0.heap.size w0 w) (hr1 : Kd.C (Kd.int .i64) w A1 g.length g) (hc1 : g.length ≤ c1) (hf1 : ∀ ad, A1 = some ad → 0 < g.length → ad.block ≠ b) :
    Calls Try.prog 88 #[.pointer (some ⟨b, 0, none⟩), .slice A1 g.length c1] w fun e w' => ∃ v own, e = .returned (.tuple #[v, .int .i64 (modCode n gs g)]) ∧ (modCode n gs g = 0 → OwnTab n.toNat gs g own) ∧ Kd.R Kd.bool 4 w' w.heap.size (fun _ => True) v own ∧ IsS26 w0 w' b n gs ∧ Below w0.heap.size w0 w' ∧ KeepBut w w' b none := by
  have hI' := hI
  obtain ⟨A, c, _, _, hC⟩ := hI'
  have hl := lens_of hC
  obtain ⟨own, hE, ho⟩ := asked_is n gs g hl.1 hl.2 hr1.2.1
  obtain ⟨k, hk⟩ := hE.rounds
  refine (spec_l02Asked.calls k b n gs A1 c1 g _ _ _ w0 w hI hB hr1 hc1 hf1 hk).mono ?_
  rintro e w' ⟨v, he, hr, hi, hb, hk⟩
  exact ⟨v, own, he, ho, hr, hi, hb, hk⟩

end Go.Proofs.Ytmanloolbpmgiaa.SSub

namespace Go.Proofs.Ytmanloolbpmgiaa.SubM
open Go.RowKit Go.Lib Go.Proofs Go.Proofs.YtmanloolbpmgiaaW.PrintWords Go.Proofs.YtmanloolbpmgiaaW.PrintWords.Kd Go.Proofs.YtmanloolbpmgiaaW.PrintLast Go.Proofs.YtmanloolbpmgiaaW.PrintMore Go.Proofs.Ytmanloolbpmgiaa.G Go.Proofs.Ytmanloolbpmgiaa.Fam Go.Proofs.Ytmanloolbpmgiaa.Loops Go.Proofs.Ytmanloolbpmgiaa.Bits Go.Proofs.Ytmanloolbpmgiaa.Sorting Go.Proofs.Ytmanloolbpmgiaa.Crowds Go.Proofs.Ytmanloolbpmgiaa.Idx Go.Proofs.Ytmanloolbpmgiaa.Valid Go.Proofs.Ytmanloolbpmgiaa.FamLaw Go.Proofs.Ytmanloolbpmgiaa.Opens Go.Proofs.Ytmanloolbpmgiaa.Ops Go.Proofs.Ytmanloolbpmgiaa.ModN Go.Proofs.Ytmanloolbpmgiaa.ModF Go.Proofs.Ytmanloolbpmgiaa.Sub
set_option linter.unusedVariables false
set_option linter.unusedSimpArgs false

/-- The boxes of the two parameters and the result's variable. -/
def subW (w : World) (n : Int) (A : Option Addr) (cap : Nat) (gs : List (List Int)) (A' : Option Addr) (cap' : Nat) (g : List Int) : World :=
  ((w.alloc (.cells #[.int .i64 n, .slice A gs.length cap] 26)).alloc (.cells #[.slice A' g.length cap'] 28)).alloc (.cells #[.int .i64 0, .slice none 0 0] 26)
theorem subW_size (w : World) (n : Int) (A : Option Addr) (cap : Nat) (gs : List (List Int)) (A' : Option Addr) (cap' : Nat) (g : List Int) : (subW w n A cap gs A' cap' g).heap.size = w.heap.size + 1 + 1 + 1 := by simp [subW]
theorem subW_below (w : World) (n : Int) (A : Option Addr) (cap : Nat) (gs : List (List Int)) (A' : Option Addr) (cap' : Nat) (g : List Int) : Below w.heap.size w (subW w n A cap gs A' cap' g) := below_alloc (below_alloc (below_alloc (Below.refl _ _) _) _) _
theorem subW_boxes (w : World) (n : Int) (A : Option Addr) (cap : Nat) (gs : List (List Int)) (A' : Option Addr) (cap' : Nat) (g : List Int) (hC : dR.C w A gs.length gs) (hC' : Kd.C (Kd.int .i64) w A' g.length g) (hcap' : g.length ≤ cap') (W : World) (hb : Below (subW w n A cap gs A' cap' g).heap.size (subW w n A cap gs A' cap' g) W) :
    FamBox W w.heap.size n A cap gs ∧ RowBox W (w.heap.size + 1) A' cap' g ∧ W.heap[w.heap.size + 1 + 1]? = some (.cells #[.int .i64 0, .slice none 0 0] 26 (0, 0)) := by
  refine ⟨((FamBox.new w n A cap gs 26 hC).later (by unfold subW at *; exact below_alloc (below_alloc (Below.refl _ _) _) _)).later hb, ⟨?_, Kd.C_below (Kd.C_below hC' (subW_below w n A cap gs A' cap' g)) hb, hcap'⟩, ?_⟩
  · exact pw_cell_below hb ((blk_cell (blk_alloc (blk_at (by simp)) _) 0).trans rfl)
  · exact blk_below (blk_at (by simp)) hb

theorem modCode_cases (n : Int) (gs : List (List Int)) (g : List Int) : (modCode n gs g = 0 ∧ ValidF n gs ∧ isGroupN n.toNat g ∧ isModB n.toNat gs g = true) ∨ (modCode n gs g = 1 ∨ modCode n gs g = 2 ∨ modCode n gs g = 4) := by
  unfold modCode
  by_cases h1 : ValidF n gs
  · rw [if_pos h1]
    by_cases h2 : isGroupN n.toNat g
    · rw [if_pos h2]
      cases h3 : isModB n.toNat gs g with
      | true => exact .inl ⟨if_pos rfl, h1, h2, rfl⟩
      | false => exact .inr (.inr (.inr (if_neg (by simp))))
    · rw [if_neg h2]; exact .inr (.inr (.inl rfl))
  · rw [if_neg h1]; exact .inr (.inl rfl)
end Go.Proofs.Ytmanloolbpmgiaa.SubM
namespace Go.Proofs.Ytmanloolbpmgiaa.SSubM
open Go.RowKit Go.Lib Go.Proofs Go.Proofs.YtmanloolbpmgiaaW.PrintWords Go.Proofs.YtmanloolbpmgiaaW.PrintWords.Kd Go.Proofs.YtmanloolbpmgiaaW.PrintLast Go.Proofs.YtmanloolbpmgiaaW.PrintMore Go.Proofs.Ytmanloolbpmgiaa.G Go.Proofs.Ytmanloolbpmgiaa.Fam Go.Proofs.Ytmanloolbpmgiaa.Loops Go.Proofs.Ytmanloolbpmgiaa.Bits Go.Proofs.Ytmanloolbpmgiaa.Sorting Go.Proofs.Ytmanloolbpmgiaa.Crowds Go.Proofs.Ytmanloolbpmgiaa.Idx Go.Proofs.Ytmanloolbpmgiaa.Valid Go.Proofs.Ytmanloolbpmgiaa.FamLaw Go.Proofs.Ytmanloolbpmgiaa.Opens Go.Proofs.Ytmanloolbpmgiaa.Ops Go.Proofs.Ytmanloolbpmgiaa.ModN Go.Proofs.Ytmanloolbpmgiaa.ModF Go.Proofs.Ytmanloolbpmgiaa.Sub
set_option linter.unusedVariables false
set_option linter.unusedSimpArgs false

/-- The boxes of the first parameter and the result's variable. -/
def sW (w : World) (n : Int) (A : Option Addr) (cap : Nat) (gs : List (List Int)) : World :=
  (w.alloc (.cells #[.int .i64 n, .slice A gs.length cap] 26)).alloc (.cells #[.int .i64 0, .slice none 0 0] 26)
theorem sW_below (w : World) (n : Int) (A : Option Addr) (cap : Nat) (gs : List (List Int)) : Below w.heap.size w (sW w n A cap gs) := below_alloc (below_alloc (Below.refl _ _) _) _
theorem sW_size (w : World) (n : Int) (A : Option Addr) (cap : Nat) (gs : List (List Int)) : (sW w n A cap gs).heap.size = w.heap.size + 1 + 1 := by simp [sW]
theorem sW_is (w : World) (n : Int) (A : Option Addr) (cap : Nat) (gs : List (List Int)) (hC : dR.C w A gs.length gs) : IsS26 w (sW w n A cap gs) w.heap.size n gs ∧ (sW w n A cap gs).heap[w.heap.size + 1]? = some (.cells #[.int .i64 0, .slice none 0 0] 26 (0, 0)) :=
  ⟨⟨A, cap, blk_alloc (blk_new w (.cells #[.int .i64 n, .slice A gs.length cap] 26)) (.cells #[.int .i64 0, .slice none 0 0] 26), Nat.le_refl _, hC⟩, blk_at (by simp)⟩
/-- A row that came in lies outside what is new. -/
theorem row_old {w : World} {A : Option Addr} {g : List Int} (h : Kd.C (Kd.int .i64) w A g.length g) (b : Nat) (hb : w.heap.size ≤ b) : ∀ ad, A = some ad → 0 < g.length → ad.block ≠ b := by
  intro ad ha hl e
  obtain ⟨ad', v, e', hc, _⟩ := elem_at (d := Kd.int .i64) rfl h 0 hl
  rw [ha] at e'
  injection e' with e'
  subst e'
  have h1 : ad.block < w.heap.size := World.block_lt_of_cell? w _ hc
  omega

theorem wu_is' {h : Nat} (hh : h ≤ 7) : IntKind.u64.wrap (h : Int) = (h : Int) := by rw [IntKind.wrap_u64]; omega
end Go.Proofs.Ytmanloolbpmgiaa.SSubM
