/- What the laws' a2Wide tells, and sets with room for a holder. No program in sight. -/
import Derived.Test.YtmeaffkgnmgmeaaGx7
import Derived.Test.YtmeaffkgnmgmeaaLeave
import Derived.Test.YtmeaffkgnmgmeaaTMay
namespace Go.Proofs.Ytmeaffkgnmgmeaa.TWide
open Go.RowKit Go.Proofs.YtmeaffkgnmgmeaaW.PrintWords Go.Proofs.YtmeaffkgnmgmeaaW.PrintMore Go.Proofs.Ytmeaffkgnmgmeaa.G Go.Proofs.Ytmeaffkgnmgmeaa.Fam Go.Proofs.Ytmeaffkgnmgmeaa.Loops Go.Proofs.Ytmeaffkgnmgmeaa.Valid Go.Proofs.Ytmeaffkgnmgmeaa.FamLaw Go.Proofs.Ytmeaffkgnmgmeaa.Leave Go.Proofs.Ytmeaffkgnmgmeaa.TMay
set_option linter.unusedVariables false
set_option maxRecDepth 100000

theorem awide_all : ∀ c : Fin 64, ∀ h : Fin 7, ∀ t : Fin 2, laws_a2Wide.f 24 (groupN c.val) ((h.val : Nat) : Int) (decide (t.val = 1)) = some (groupN (wideN c.val h.val ||| t.val <<< h.val)) := by decide +kernel
theorem awide_is {c h t : Nat} (hc : c < 64) (hh : h < 7) (ht : t < 2) : Ev (fun k => laws_a2Wide.f k (groupN c) (h : Int) (decide (t = 1))) (groupN (wideN c h ||| t <<< h)) :=
  Ev.of (fun k => laws_a2Wide.mono _ _ _ k) (awide_all ⟨c, hc⟩ ⟨h, hh⟩ ⟨t, ht⟩)
theorem wide_sub_all : ∀ h : Fin 7, ∀ c : Fin 64, ∀ d : Fin 64, d.val &&& c.val = c.val → wideN d.val h.val &&& wideN c.val h.val = wideN c.val h.val ∧ (wideN d.val h.val ||| 1 <<< h.val) &&& (wideN c.val h.val ||| 1 <<< h.val) = wideN c.val h.val ||| 1 <<< h.val := by decide +kernel
theorem wide_rest_all : ∀ m : Fin 7, ∀ h : Fin 7, ∀ c : Fin 64, c.val < 2 ^ m.val → h.val ≤ m.val → 2 ^ (m.val + 1) - 1 - (wideN c.val h.val ||| 1 <<< h.val) = wideN (2 ^ m.val - 1 - c.val) h.val := by decide +kernel
theorem two6 {m : Nat} (hm : m ≤ 6) : 2 ^ m ≤ 64 := by have := Nat.pow_le_pow_right (n := 2) (by omega) hm; simpa using this
theorem leave_lt {m h t c : Nat} (hm : m ≤ 6) (hh : h ≤ m) (ht : t < 2) (hc : c < 2 ^ m) : wideN c h ||| t <<< h < 2 ^ (m + 1) := by
  have hl := wide_lt hm hc hh
  have : t = 0 ∨ t = 1 := by omega
  rcases this with rfl | rfl
  · simpa using hl.1
  · exact hl.2
theorem leave_mono {m : Nat} {gs : List (List Int)} (hm : m ≤ 6) (hv : ValidF ((m + 1 : Nat) : Int) gs) {h t : Nat} (hh : h ≤ m) (ht : t < 2) : Mono m (leaveP gs h t) := by
  intro c d hc hd hs hp
  have h6 := two6 hm
  unfold leaveP at *
  refine open_mono hv _ _ (leave_lt hm hh ht hc) (leave_lt hm hh ht hd) ?_ hp
  have hw := wide_sub_all ⟨h, by omega⟩ ⟨c, by omega⟩ ⟨d, by omega⟩ hs
  have : t = 0 ∨ t = 1 := by omega
  rcases this with rfl | rfl
  · simpa using hw.1
  · exact hw.2

end Go.Proofs.Ytmeaffkgnmgmeaa.TWide
