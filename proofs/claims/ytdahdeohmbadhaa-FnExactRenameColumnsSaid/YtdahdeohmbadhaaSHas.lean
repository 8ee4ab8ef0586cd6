/- The reference's l00Has: whether a row holds a number. -/
import Derived.Test.YtdahdeohmbadhaaGx7
import Derived.Test.YtdahdeohmbadhaaFam
namespace Go.Proofs.Ytdahdeohmbadhaa.SHas
open Go.RowKit Go.Lib Go.Proofs Go.Proofs.YtdahdeohmbadhaaW.PrintWords Go.Proofs.YtdahdeohmbadhaaW.PrintWords.Kd Go.Proofs.YtdahdeohmbadhaaW.PrintLast Go.Proofs.YtdahdeohmbadhaaW.PrintMore Go.Proofs.Ytdahdeohmbadhaa.G Go.Proofs.Ytdahdeohmbadhaa.Fam Go.Proofs.Ytdahdeohmbadhaa.Loops
set_option linter.unusedVariables false
set_option linter.unusedSimpArgs false

theorem shas_loop (g : List Int) (x : Int) (hl : g.length ≤ 9223372036854775807) : ∀ (d i : Nat), i ≤ g.length → g.length - i = d → Ev (fun k => spec_l00Has.l0 k g x (i : Int)) (decide (x ∈ g.drop i)) := by
  intro d
  induction d with
  | zero =>
    intro i hi hd
    obtain rfl : i = g.length := by omega
    refine Ev.step (f := fun _ => some false) (fun k => by simp only [spec_l00Has.l0]; rw [if_neg (by omega)]) ?_
    rw [List.drop_length]
    exact Ev.now _
  | succ d ih =>
    intro i hi hd
    have hlt : i < g.length := by omega
    have h1 := ih (i + 1) (by omega) (by omega)
    rw [List.drop_eq_getElem_cons hlt]
    by_cases e : g[i] = x
    · refine Ev.step (f := fun _ => some true) (fun k => ?_) ?_
      · simp only [spec_l00Has.l0]
        rw [if_pos (by omega), if_pos (by omega), rd_nat]
        simp only [List.getD, List.getElem?_eq_getElem hlt, Option.getD_some]
        rw [if_pos e]
      · rw [decide_eq_true (by simp [e])]
        exact Ev.now _
    · refine Ev.step (fun k => ?_) (show Ev (fun k => spec_l00Has.l0 k g x ((i + 1 : Nat) : Int)) (decide (x ∈ g[i] :: g.drop (i + 1))) from ?_)
      · simp only [spec_l00Has.l0]
        rw [if_pos (by omega), if_pos (by omega), rd_nat]
        simp only [List.getD, List.getElem?_eq_getElem hlt, Option.getD_some]
        rw [if_neg e, wrap_id (by omega) (by omega)]
        rfl
      · rw [decide_eq_decide.2 (show x ∈ g[i] :: g.drop (i + 1) ↔ x ∈ g.drop (i + 1) from by rw [List.mem_cons]; exact ⟨fun h => h.resolve_left (fun h' => e h'.symm), .inr⟩)]
        exact h1
theorem shas_calls (A : Option Addr) (cap : Nat) (g : List Int) (x : Int) (W : World) (hC : Kd.C (Kd.int .i64) W A g.length g) (hcap : g.length ≤ cap) :
    Calls Try.prog 89 #[.slice A g.length cap, .int .i64 x] W fun e w' => e = .returned (.bool (decide (x ∈ g))) ∧ ∃ q, w' = W.drewN q := by
  have h := shas_loop g x hC.2.1 g.length 0 (Nat.zero_le _) rfl
  rw [List.drop_zero] at h
  obtain ⟨k, hk⟩ := h.rounds
  exact (spec_l00Has.calls k A cap g x _ W hC hcap hk).mono fun e w' ⟨he, hd⟩ => ⟨he, hd.out⟩

end Go.Proofs.Ytdahdeohmbadhaa.SHas
