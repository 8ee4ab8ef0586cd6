/- Families that are valid: sizes, and families made of them. No program in sight. -/
import Derived.Test.YtgemfighmnnmeaaSome
namespace Go.Proofs.Ytgemfighmnnmeaa.TMay
open Go.RowKit Go.Proofs.YtgemfighmnnmeaaW.PrintWords Go.Proofs.YtgemfighmnnmeaaW.PrintMore Go.Proofs.Ytgemfighmnnmeaa.G Go.Proofs.Ytgemfighmnnmeaa.Fam Go.Proofs.Ytgemfighmnnmeaa.Loops Go.Proofs.Ytgemfighmnnmeaa.Bits Go.Proofs.Ytgemfighmnnmeaa.Valid Go.Proofs.Ytgemfighmnnmeaa.FamLaw Go.Proofs.Ytgemfighmnnmeaa.Ops Go.Proofs.Ytgemfighmnnmeaa.Opens Go.Proofs.Ytgemfighmnnmeaa.Crowds Go.Proofs.Ytgemfighmnnmeaa.From Go.Proofs.Ytgemfighmnnmeaa.Ref Go.Proofs.Ytgemfighmnnmeaa.Some
set_option linter.unusedVariables false
set_option maxRecDepth 100000

theorem len7 {n : Nat} (hn : n ≤ 7) {g : List Int} (h : isGroupN n g) : g.length ≤ 7 := by
  rw [← groupN_bitsN hn h]
  unfold groupN
  rw [List.length_map]
  have := List.length_filter_le (bitsN g).testBit (List.range 7)
  simpa using this
theorem famN_len {n : Nat} (hn : n ≤ 7) (p : Nat → Bool) : (famN n p).length ≤ 128 := by
  unfold famN crowdsN
  rw [List.length_mergeSort]
  exact crowds_len n _ hn
theorem valid_nat {n : Int} {gs : List (List Int)} (h : ValidF n gs) : ∃ m : Nat, n = (m : Int) ∧ 1 ≤ m ∧ m ≤ 7 := ⟨n.toNat, by have := h.1; omega, by have := h.1; omega, by have := h.1; omega⟩
theorem valid_len {n : Nat} {gs : List (List Int)} (h : ValidF (n : Int) gs) : gs.length ≤ 128 := by
  have hn : n ≤ 7 := by have := h.1; omega
  rw [← famN_openN hn h]
  exact famN_len hn _
theorem valid_groups {n : Nat} {gs : List (List Int)} (h : ValidF (n : Int) gs) : ∀ g ∈ gs, isGroupN n g := fun g hg => by have := h.2.1 g hg; simpa using this
theorem valid_lens {n : Nat} {gs : List (List Int)} (h : ValidF (n : Int) gs) : gs.length ≤ 9223372036854775807 ∧ ∀ g ∈ gs, g.length ≤ 9223372036854775807 := by
  have hn : n ≤ 7 := by have := h.1; omega
  refine ⟨by have := valid_len h; omega, fun g hg => ?_⟩
  have := len7 hn (valid_groups h g hg)
  omega
/-! ### a group, drawn -/
theorem snoc_all : ∀ h : Fin 7, ∀ c : Fin 128, c.val < 2 ^ h.val → groupN c.val ++ [((h.val : Nat) : Int)] = groupN (c.val ||| 1 <<< h.val) := by decide +kernel
theorem or_lt2 {c h : Nat} (hc : c < 2 ^ h) : c ||| 1 <<< h < 2 ^ (h + 1) := by
  apply Nat.or_lt_two_pow
  · rw [Nat.pow_succ]; omega
  · rw [Nat.one_shiftLeft, Nat.pow_succ]; have := Nat.two_pow_pos h; omega
/-! ### families made of families -/
theorem open_mono {n : Nat} {gs : List (List Int)} (h : ValidF (n : Int) gs) : Mono n (openN gs) := openN_mono (by have := h.1; omega) (valid_groups h)
theorem fam_valid {n : Nat} {gs : List (List Int)} (h : ValidF (n : Int) gs) {p : Nat → Bool} (hm : Mono n p) : ValidF (n : Int) (famN n p) := famN_valid (by have := h.1; omega) (by have := h.1; omega) hm

end Go.Proofs.Ytgemfighmnnmeaa.TMay
