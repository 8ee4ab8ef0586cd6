/- What the laws' helper has tells. No program in sight. -/
import Derived.Test.YtgemfighmnnmeaaGreatGx9
import Derived.Test.YtgemfighmnnmeaaGreatTMay0
namespace Go.Proofs.YtgemfighmnnmeaaGreat.THas
open Go.RowKit Go.Proofs.YtgemfighmnnmeaaGreatW.PrintWords Go.Proofs.YtgemfighmnnmeaaGreatW.PrintMore Go.Proofs.YtgemfighmnnmeaaGreat.G Go.Proofs.YtgemfighmnnmeaaGreat.Fam Go.Proofs.YtgemfighmnnmeaaGreat.Loops Go.Proofs.YtgemfighmnnmeaaGreat.Valid Go.Proofs.YtgemfighmnnmeaaGreat.FamLaw Go.Proofs.YtgemfighmnnmeaaGreat.TMay
set_option linter.unusedVariables false
set_option maxRecDepth 100000

theorem has_loop (g : List Int) (x : Int) (hl : g.length ≤ 9223372036854775807) : ∀ (d i : Nat), i ≤ g.length → g.length - i = d → Ev (fun k => laws_a2Has.l0 k g x (i : Int)) (decide (x ∈ g.drop i)) := by
 intro d
 induction d with
 | zero =>
  intro i hi hd
  obtain rfl : i = g.length := by omega
  refine Ev.step (f := fun _ => some false) (fun k => by simp only [laws_a2Has.l0]; rw [if_neg (by omega)]) ?_
  rw [List.drop_length]
  exact Ev.now _
 | succ d ih =>
  intro i hi hd
  have hlt : i < g.length := by omega
  have h1 := ih (i + 1) (by omega) (by omega)
  rw [List.drop_eq_getElem_cons hlt]
  by_cases e : g[i] = x
  ·
   refine Ev.step (f := fun _ => some true) (fun k => ?_) ?_
   ·
    simp only [laws_a2Has.l0]
    rw [if_pos (by omega), if_pos (by omega), rd_nat]
    simp only [List.getD, List.getElem?_eq_getElem hlt, Option.getD_some]
    rw [if_pos e]
   ·
    rw [decide_eq_true (by simp [e])]
    exact Ev.now _
  ·
   refine Ev.step (fun k => ?_) (show Ev (fun k => laws_a2Has.l0 k g x ((i + 1 : Nat) : Int)) (decide (x ∈ g[i] :: g.drop (i + 1))) from ?_)
   ·
    simp only [laws_a2Has.l0]
    rw [if_pos (by omega), if_pos (by omega), rd_nat]
    simp only [List.getD, List.getElem?_eq_getElem hlt, Option.getD_some]
    rw [if_neg e, wrap_id (by omega) (by omega)]
    rfl
   ·
    rw [decide_eq_decide.2 (show x ∈ g[i] :: g.drop (i + 1) ↔ x ∈ g.drop (i + 1) from by rw [List.mem_cons]; exact ⟨fun h => h.resolve_left (fun h' => e h'.symm), .inr⟩)]
    exact h1
theorem has_is (g : List Int) (x : Int) (hl : g.length ≤ 9223372036854775807) : Ev (fun k => laws_a2Has.f k g x) (decide (x ∈ g)) := by
 have := has_loop g x hl g.length 0 (Nat.zero_le _) rfl
 rw [List.drop_zero] at this
 exact this
theorem group_len (c : Nat) : (groupN c).length ≤ 7 := by
 unfold groupN
 rw [List.length_map]
 have := List.length_filter_le c.testBit (List.range 7)
 simpa using this
theorem mem_group {c h : Nat} (hh : h < 7) : decide ((h : Int) ∈ groupN c) = c.testBit h := by
 rw [Bool.eq_iff_iff, decide_eq_true_iff, groupN_mem, Int.toNat_natCast]
 exact ⟨fun h => h.2.2, fun h' => ⟨by omega, by omega, h'⟩⟩
theorem has_group {c h : Nat} (hh : h < 7) : Ev (fun k => laws_a2Has.f k (groupN c) (h : Int)) (c.testBit h) := by
 have := has_is (groupN c) (h : Int) (by have := group_len c; omega)
 rwa [mem_group hh] at this

end Go.Proofs.YtgemfighmnnmeaaGreat.THas
