/- Contracts of the program's moduleCode and ModuleFamily. What ModuleFamily and OuterFamily have in common. -/
import Derived.Test.YtgemfighmnnmeaaGreatGx7
import Derived.Test.YtgemfighmnnmeaaGreatModules
namespace Go.Proofs.YtgemfighmnnmeaaGreat.Sub
open Go.RowKit Go.Lib Go.Proofs Go.Proofs.YtgemfighmnnmeaaGreatW.PrintWords Go.Proofs.YtgemfighmnnmeaaGreatW.PrintWords.Kd Go.Proofs.YtgemfighmnnmeaaGreatW.PrintLast Go.Proofs.YtgemfighmnnmeaaGreatW.PrintMore Go.Proofs.YtgemfighmnnmeaaGreat.G Go.Proofs.YtgemfighmnnmeaaGreat.Fam Go.Proofs.YtgemfighmnnmeaaGreat.Loops Go.Proofs.YtgemfighmnnmeaaGreat.Bits Go.Proofs.YtgemfighmnnmeaaGreat.Valid Go.Proofs.YtgemfighmnnmeaaGreat.FamLaw Go.Proofs.YtgemfighmnnmeaaGreat.Opens Go.Proofs.YtgemfighmnnmeaaGreat.Idx Go.Proofs.YtgemfighmnnmeaaGreat.Sorting Go.Proofs.YtgemfighmnnmeaaGreat.Crowds Go.Proofs.YtgemfighmnnmeaaGreat.FamOf Go.Proofs.YtgemfighmnnmeaaGreat.Ops Go.Proofs.YtgemfighmnnmeaaGreat.ModN Go.Proofs.YtgemfighmnnmeaaGreat.ModF Go.Proofs.YtgemfighmnnmeaaGreat.IsMod Go.Proofs.YtgemfighmnnmeaaGreat.Modules
set_option linter.unusedVariables false
set_option linter.unusedSimpArgs false

/-- The code of a family and a group that has to be a module. -/
def modCode (n : Int) (gs : List (List Int)) (g : List Int) : Int := if ValidF n gs then (if isGroupN n.toNat g then (if isModB n.toNat gs g = true then 0 else 4) else 2) else 1
theorem modCode_is (n : Int) (gs : List (List Int)) (g : List Int) (hl : gs.length ≤ 9223372036854775807) (hgl : ∀ x ∈ gs, x.length ≤ 9223372036854775807) (hg : g.length ≤ 9223372036854775807) : Ev (fun k => impl_moduleCode.f k n gs g) (modCode n gs g) := by
 unfold impl_moduleCode.f impl_IsModule.f modCode
 have hv := valid_is n gs hl hgl
 by_cases h1 : ValidF n gs
 ·
  rw [if_pos h1]
  rw [decide_eq_true h1] at hv
  have hn : ((n.toNat : Nat) : Int) = n := by have := h1.1; omega
  have hgr : Ev (fun k => impl_isGroup.f k n g) (decide (isGroupN n.toNat g)) := ⟨g.length + 1, fun k hk => by
   have := isGroup_is n.toNat g k (by have := h1.1; omega) hg (by omega)
   rwa [hn] at this⟩
  by_cases h2 : isGroupN n.toNat g
  ·
   rw [if_pos h2]
   rw [decide_eq_true h2] at hgr
   have hm : impl_Family_isModule.f n gs g = some (isModB n.toNat gs g) := by
    show isModF n gs g = _
    unfold isModF
    rw [if_pos ⟨h1, h2⟩]
   refine Ev.bind (a := (isModB n.toNat gs g, 0)) (Ev.bind hv ?_) ?_
   ·
    simp only [if_true]
    refine Ev.bind hgr ?_
    simp only [if_true]
    rw [hm]
    exact Ev.now _
   ·
    simp only [if_true]
    cases isModB n.toNat gs g with
    | true => simp only [if_true]; exact Ev.now _
    | false => simp only [Bool.false_eq_true, if_false]; exact Ev.now _
  ·
   rw [if_neg h2]
   rw [decide_eq_false h2] at hgr
   refine Ev.bind (a := (false, 2)) (Ev.bind hv ?_) ?_
   ·
    simp only [if_true]
    refine Ev.bind hgr ?_
    simp only [Bool.false_eq_true, if_false]
    exact Ev.now _
   ·
    exact Ev.now _
 ·
  rw [if_neg h1]
  rw [decide_eq_false h1] at hv
  refine Ev.bind (a := (false, 1)) (Ev.bind hv ?_) ?_
  ·
   simp only [Bool.false_eq_true, if_false]
   exact Ev.now _
  ·
   exact Ev.now _
theorem modCode_calls (n : Int) (A : Option Addr) (cap : Nat) (gs : List (List Int)) (A' : Option Addr) (cap' : Nat) (g : List Int) (W : World) (hC : dR.C W A gs.length gs) (hcap : gs.length ≤ cap) (hC' : Kd.C (Kd.int .i64) W A' g.length g) (hcap' : g.length ≤ cap') :
  Calls Tryz.prog 24 #[.agg #[.int .i64 n, .slice A gs.length cap], .slice A' g.length cap'] W fun e w' => e = .returned (.int .i64 (modCode n gs g)) ∧ Below W.heap.size W w' := by
 have hl := lens_of hC
 obtain ⟨k, hk⟩ := (modCode_is n gs g hl.1 hl.2 hC'.2.1).rounds
 exact impl_moduleCode.calls k n A cap gs A' cap' g _ W hC hcap hC' hcap' hk

/-- A row in a box. -/
def RowBox (W : World) (b : Nat) (A : Option Addr) (cap : Nat) (l : List Int) : Prop := W.cell? ⟨b, 0, none⟩ = some (.slice A l.length cap) ∧ Kd.C (Kd.int .i64) W A l.length l ∧ l.length ≤ cap
theorem RowBox.later {W W' : World} {b : Nat} {A : Option Addr} {cap : Nat} {l : List Int} (h : RowBox W b A cap l) (hb : Below W.heap.size W W') : RowBox W' b A cap l := ⟨pw_cell_below hb h.1, Kd.C_below h.2.1 hb, h.2.2⟩

/-! ### the part of a module -/
def subAt (gs : List (List Int)) (rs : List Int) (y d : Nat) : Bool := !openN gs (spreadN rs d) && openN gs (spreadN rs d ||| y)
def subP (n : Nat) (gs : List (List Int)) (g : List Int) (c : Nat) : Bool := ownP gs (bitsN g) (2 ^ n) (spreadN g c)
theorem sub_is {n : Nat} {gs : List (List Int)} (hv : ValidF (n : Int) gs) {g : List Int} (hg : isGroupN n g) (c : Nat) : (List.range (2 ^ (restG n g).length)).any (subAt gs (restG n g) (spreadN g c)) = subP n gs g c := by
 have hn : n ≤ 7 := by have := hv.1; omega
 have hm := bitsN_lt hg.1
 unfold subP ownP
 rw [Bool.eq_iff_iff, List.any_eq_true, List.any_eq_true]
 constructor
 ·
  rintro ⟨d, _, h⟩
  unfold subAt at h
  simp only [Bool.and_eq_true, Bool.not_eq_true'] at h
  obtain ⟨h1, h2⟩ := spread_out hn hg d
  have h3 : openN gs (spreadN (restG n g) d ||| bitsN g) = true := by
   refine openN_mono hn (fun a ha => by have := hv.2.1 a ha; simpa using this) _ _ (Nat.or_lt_two_pow h1 (spread_lt hg.1 c)) (Nat.or_lt_two_pow h1 hm) ?_ h.2
   have hs := spread_sub g c
   apply Nat.eq_of_testBit_eq
   intro i
   have hi := congrArg (fun z => z.testBit i) hs
   simp only [Nat.testBit_and] at hi
   simp only [Nat.testBit_and, Nat.testBit_or]
   cases h4 : (spreadN g c).testBit i with
   | false => cases (spreadN (restG n g) d).testBit i <;> simp
   | true => rw [h4, Bool.and_true] at hi; rw [hi]; simp
  exact ⟨spreadN (restG n g) d, List.mem_range.2 h1, by unfold relO rel; rw [decide_eq_true h2, h.1, h3, h.2]; rfl⟩
 ·
  rintro ⟨x, hx, h⟩
  unfold relO rel at h
  simp only [Bool.and_eq_true, Bool.not_eq_true', decide_eq_true_eq] at h
  obtain ⟨d, hd, rfl⟩ := out_spread hn hg (List.mem_range.1 hx) h.1.1
  exact ⟨d, List.mem_range.2 hd, by unfold subAt; rw [h.1.2.1, h.2]; rfl⟩

end Go.Proofs.YtgemfighmnnmeaaGreat.Sub

namespace Go.Proofs.YtgemfighmnnmeaaGreat.SubM
open Go.RowKit Go.Lib Go.Proofs Go.Proofs.YtgemfighmnnmeaaGreatW.PrintWords Go.Proofs.YtgemfighmnnmeaaGreatW.PrintWords.Kd Go.Proofs.YtgemfighmnnmeaaGreatW.PrintLast Go.Proofs.YtgemfighmnnmeaaGreatW.PrintMore Go.Proofs.YtgemfighmnnmeaaGreat.G Go.Proofs.YtgemfighmnnmeaaGreat.Fam Go.Proofs.YtgemfighmnnmeaaGreat.Loops Go.Proofs.YtgemfighmnnmeaaGreat.Bits Go.Proofs.YtgemfighmnnmeaaGreat.Sorting Go.Proofs.YtgemfighmnnmeaaGreat.Crowds Go.Proofs.YtgemfighmnnmeaaGreat.Idx Go.Proofs.YtgemfighmnnmeaaGreat.Valid Go.Proofs.YtgemfighmnnmeaaGreat.FamLaw Go.Proofs.YtgemfighmnnmeaaGreat.Opens Go.Proofs.YtgemfighmnnmeaaGreat.Ops Go.Proofs.YtgemfighmnnmeaaGreat.ModN Go.Proofs.YtgemfighmnnmeaaGreat.ModF Go.Proofs.YtgemfighmnnmeaaGreat.Sub
set_option linter.unusedVariables false
set_option linter.unusedSimpArgs false

/-- The boxes of the two parameters and the result's variable. -/
def subW (w : World) (n : Int) (A : Option Addr) (cap : Nat) (gs : List (List Int)) (A' : Option Addr) (cap' : Nat) (g : List Int) : World :=
 ((w.alloc (.cells #[.int .i64 n, .slice A gs.length cap] 26)).alloc (.cells #[.slice A' g.length cap'] 27)).alloc (.cells #[.int .i64 0, .slice none 0 0] 26)
theorem subW_size (w : World) (n : Int) (A : Option Addr) (cap : Nat) (gs : List (List Int)) (A' : Option Addr) (cap' : Nat) (g : List Int) : (subW w n A cap gs A' cap' g).heap.size = w.heap.size + 1 + 1 + 1 := by simp [subW]
theorem subW_below (w : World) (n : Int) (A : Option Addr) (cap : Nat) (gs : List (List Int)) (A' : Option Addr) (cap' : Nat) (g : List Int) : Below w.heap.size w (subW w n A cap gs A' cap' g) := below_alloc (below_alloc (below_alloc (Below.refl _ _) _) _) _
theorem subW_boxes (w : World) (n : Int) (A : Option Addr) (cap : Nat) (gs : List (List Int)) (A' : Option Addr) (cap' : Nat) (g : List Int) (hC : dR.C w A gs.length gs) (hC' : Kd.C (Kd.int .i64) w A' g.length g) (hcap' : g.length ≤ cap') (W : World) (hb : Below (subW w n A cap gs A' cap' g).heap.size (subW w n A cap gs A' cap' g) W) :
  FamBox W w.heap.size n A cap gs ∧ RowBox W (w.heap.size + 1) A' cap' g ∧ W.heap[w.heap.size + 1 + 1]? = some (.cells #[.int .i64 0, .slice none 0 0] 26 (0, 0)) := by
 refine ⟨((FamBox.new w n A cap gs 26 hC).later (by unfold subW at *; exact below_alloc (below_alloc (Below.refl _ _) _) _)).later hb, ⟨?_, Kd.C_below (Kd.C_below hC' (subW_below w n A cap gs A' cap' g)) hb, hcap'⟩, ?_⟩
 ·
  exact pw_cell_below hb ((blk_cell (blk_alloc (blk_at (by simp)) _) 0).trans rfl)
 ·
  exact blk_below (blk_at (by simp)) hb

theorem modCode_cases (n : Int) (gs : List (List Int)) (g : List Int) : (modCode n gs g = 0 ∧ ValidF n gs ∧ isGroupN n.toNat g ∧ isModB n.toNat gs g = true) ∨ (modCode n gs g = 1 ∨ modCode n gs g = 2 ∨ modCode n gs g = 4) := by
 unfold modCode
 by_cases h1 : ValidF n gs
 ·
  rw [if_pos h1]
  by_cases h2 : isGroupN n.toNat g
  ·
   rw [if_pos h2]
   cases h3 : isModB n.toNat gs g with
   | true => exact .inl ⟨if_pos rfl, h1, h2, rfl⟩
   | false => exact .inr (.inr (.inr (if_neg (by simp))))
  ·
   rw [if_neg h2]; exact .inr (.inr (.inl rfl))
 ·
  rw [if_neg h1]; exact .inr (.inl rfl)
end Go.Proofs.YtgemfighmnnmeaaGreat.SubM
namespace Go.Proofs.YtgemfighmnnmeaaGreat.SSubM
open Go.RowKit Go.Lib Go.Proofs Go.Proofs.YtgemfighmnnmeaaGreatW.PrintWords Go.Proofs.YtgemfighmnnmeaaGreatW.PrintWords.Kd Go.Proofs.YtgemfighmnnmeaaGreatW.PrintLast Go.Proofs.YtgemfighmnnmeaaGreatW.PrintMore Go.Proofs.YtgemfighmnnmeaaGreat.G Go.Proofs.YtgemfighmnnmeaaGreat.Fam Go.Proofs.YtgemfighmnnmeaaGreat.Loops Go.Proofs.YtgemfighmnnmeaaGreat.Bits Go.Proofs.YtgemfighmnnmeaaGreat.Sorting Go.Proofs.YtgemfighmnnmeaaGreat.Crowds Go.Proofs.YtgemfighmnnmeaaGreat.Idx Go.Proofs.YtgemfighmnnmeaaGreat.Valid Go.Proofs.YtgemfighmnnmeaaGreat.FamLaw Go.Proofs.YtgemfighmnnmeaaGreat.Opens Go.Proofs.YtgemfighmnnmeaaGreat.Ops Go.Proofs.YtgemfighmnnmeaaGreat.ModN Go.Proofs.YtgemfighmnnmeaaGreat.ModF Go.Proofs.YtgemfighmnnmeaaGreat.Sub
set_option linter.unusedVariables false
set_option linter.unusedSimpArgs false

/-- The boxes of the first parameter and the result's variable. -/
def sW (w : World) (n : Int) (A : Option Addr) (cap : Nat) (gs : List (List Int)) : World :=
 (w.alloc (.cells #[.int .i64 n, .slice A gs.length cap] 26)).alloc (.cells #[.int .i64 0, .slice none 0 0] 26)
theorem sW_below (w : World) (n : Int) (A : Option Addr) (cap : Nat) (gs : List (List Int)) : Below w.heap.size w (sW w n A cap gs) := below_alloc (below_alloc (Below.refl _ _) _) _
theorem sW_size (w : World) (n : Int) (A : Option Addr) (cap : Nat) (gs : List (List Int)) : (sW w n A cap gs).heap.size = w.heap.size + 1 + 1 := by simp [sW]
theorem sW_is (w : World) (n : Int) (A : Option Addr) (cap : Nat) (gs : List (List Int)) (hC : dR.C w A gs.length gs) : IsS26 w (sW w n A cap gs) w.heap.size n gs ∧ (sW w n A cap gs).heap[w.heap.size + 1]? = some (.cells #[.int .i64 0, .slice none 0 0] 26 (0, 0)) :=
 ⟨⟨A, cap, blk_alloc (blk_new w (.cells #[.int .i64 n, .slice A gs.length cap] 26)) (.cells #[.int .i64 0, .slice none 0 0] 26), Nat.le_refl _, hC⟩, blk_at (by simp)⟩
/-- A row that came in lies outside what is new. -/
theorem row_old {w : World} {A : Option Addr} {g : List Int} (h : Kd.C (Kd.int .i64) w A g.length g) (b : Nat) (hb : w.heap.size ≤ b) : ∀ ad, A = some ad → 0 < g.length → ad.block ≠ b := by
 intro ad ha hl e
 obtain ⟨ad', v, e', hc, _⟩ := elem_at (d := Kd.int .i64) rfl h 0 hl
 rw [ha] at e'
 injection e' with e'
 subst e'
 have h1 : ad.block < w.heap.size := World.block_lt_of_cell? w _ hc
 omega

theorem wu_is' {h : Nat} (hh : h ≤ 7) : IntKind.u64.wrap (h : Int) = (h : Int) := by rw [IntKind.wrap_u64]; omega
end Go.Proofs.YtgemfighmnnmeaaGreat.SSubM
