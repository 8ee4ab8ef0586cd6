/- Families that are valid: sizes, and families made of them. No program in sight. What the laws' own helpers on bytes tell. No program in sight. What the printed functions see of opens. No program in sight. -/
import Derived.Test.YtgemfighmnnmeaaGreatSome
import Derived.Test.YtgemfighmnnmeaaGreatGx7
import Derived.Test.YtgemfighmnnmeaaGreatFam
import Derived.Laws.BitsLemmas
import Derived.Test.YtgemfighmnnmeaaGreatGx5
namespace Go.Proofs.YtgemfighmnnmeaaGreat.TMay
open Go.RowKit Go.Proofs.YtgemfighmnnmeaaGreatW.PrintWords Go.Proofs.YtgemfighmnnmeaaGreatW.PrintMore Go.Proofs.YtgemfighmnnmeaaGreat.G Go.Proofs.YtgemfighmnnmeaaGreat.Fam Go.Proofs.YtgemfighmnnmeaaGreat.Loops Go.Proofs.YtgemfighmnnmeaaGreat.Bits Go.Proofs.YtgemfighmnnmeaaGreat.Valid Go.Proofs.YtgemfighmnnmeaaGreat.FamLaw Go.Proofs.YtgemfighmnnmeaaGreat.Ops Go.Proofs.YtgemfighmnnmeaaGreat.Opens Go.Proofs.YtgemfighmnnmeaaGreat.Crowds Go.Proofs.YtgemfighmnnmeaaGreat.From Go.Proofs.YtgemfighmnnmeaaGreat.Ref Go.Proofs.YtgemfighmnnmeaaGreat.Some
set_option linter.unusedVariables false
set_option maxRecDepth 100000

theorem len7 {n : Nat} (hn : n ≤ 7) {g : List Int} (h : isGroupN n g) : g.length ≤ 7 := by
 rw [← groupN_bitsN hn h]
 unfold groupN
 rw [List.length_map]
 have := List.length_filter_le (bitsN g).testBit (List.range 7)
 simpa using this
theorem famN_len {n : Nat} (hn : n ≤ 7) (p : Nat → Bool) : (famN n p).length ≤ 128 := by
 unfold famN crowdsN
 rw [List.length_mergeSort]
 exact crowds_len n _ hn
theorem valid_nat {n : Int} {gs : List (List Int)} (h : ValidF n gs) : ∃ m : Nat, n = (m : Int) ∧ 1 ≤ m ∧ m ≤ 7 := ⟨n.toNat, by have := h.1; omega, by have := h.1; omega, by have := h.1; omega⟩
theorem valid_len {n : Nat} {gs : List (List Int)} (h : ValidF (n : Int) gs) : gs.length ≤ 128 := by
 have hn : n ≤ 7 := by have := h.1; omega
 rw [← famN_openN hn h]
 exact famN_len hn _
theorem valid_groups {n : Nat} {gs : List (List Int)} (h : ValidF (n : Int) gs) : ∀ g ∈ gs, isGroupN n g := fun g hg => by have := h.2.1 g hg; simpa using this
theorem valid_lens {n : Nat} {gs : List (List Int)} (h : ValidF (n : Int) gs) : gs.length ≤ 9223372036854775807 ∧ ∀ g ∈ gs, g.length ≤ 9223372036854775807 := by
 have hn : n ≤ 7 := by have := h.1; omega
 refine ⟨by have := valid_len h; omega, fun g hg => ?_⟩
 have := len7 hn (valid_groups h g hg)
 omega
/-! ### a group, drawn -/
theorem snoc_all : ∀ h : Fin 7, ∀ c : Fin 128, c.val < 2 ^ h.val → groupN c.val ++ [((h.val : Nat) : Int)] = groupN (c.val ||| 1 <<< h.val) := by decide +kernel
theorem or_lt2 {c h : Nat} (hc : c < 2 ^ h) : c ||| 1 <<< h < 2 ^ (h + 1) := by
 apply Nat.or_lt_two_pow
 ·
  rw [Nat.pow_succ]; omega
 ·
  rw [Nat.one_shiftLeft, Nat.pow_succ]; have := Nat.two_pow_pos h; omega
/-! ### families made of families -/
theorem open_mono {n : Nat} {gs : List (List Int)} (h : ValidF (n : Int) gs) : Mono n (openN gs) := openN_mono (by have := h.1; omega) (valid_groups h)
theorem fam_valid {n : Nat} {gs : List (List Int)} (h : ValidF (n : Int) gs) {p : Nat → Bool} (hm : Mono n p) : ValidF (n : Int) (famN n p) := famN_valid (by have := h.1; omega) (by have := h.1; omega) hm

end Go.Proofs.YtgemfighmnnmeaaGreat.TMay
namespace Go.Proofs.YtgemfighmnnmeaaGreat.TArg
open Go.RowKit Go.Proofs.YtgemfighmnnmeaaGreatW.PrintWords Go.Proofs.YtgemfighmnnmeaaGreatW.PrintMore Go.Proofs.YtgemfighmnnmeaaGreat.G Go.Proofs.YtgemfighmnnmeaaGreat.Loops
set_option linter.unusedVariables false

theorem byte_of {x : Int} (h : (Lit.int .u8 x).wf = true) : 0 ≤ x ∧ x < 256 := by
 have h2 : IntKind.u8.min ≤ x ∧ x ≤ IntKind.u8.max := by simpa [Lit.wf] using h
 have h3 : IntKind.u8.min = 0 := by decide
 have h4 : IntKind.u8.max = 255 := by decide
 omega
theorem long_is (a b : List Int) : laws_a2Long.f a b = some (decide (a.length > 3000 ∨ b.length > 3000)) := by
 unfold laws_a2Long.f
 by_cases h : (a.length : Int) > 3000
 ·
  rw [if_pos h]; congr 1; symm; apply decide_eq_true; omega
 ·
  rw [if_neg h]; congr 1; apply decide_eq_decide.2; omega

end Go.Proofs.YtgemfighmnnmeaaGreat.TArg
namespace Go.Proofs.YtgemfighmnnmeaaGreat.TMay
open Go.Proofs.YtgemfighmnnmeaaGreat.TArg Go.RowKit Go.Proofs.YtgemfighmnnmeaaGreatW.PrintWords Go.Proofs.YtgemfighmnnmeaaGreatW.PrintMore Go.Proofs.YtgemfighmnnmeaaGreat.G Go.Proofs.YtgemfighmnnmeaaGreat.Fam Go.Proofs.YtgemfighmnnmeaaGreat.Loops Go.Proofs.YtgemfighmnnmeaaGreat.Bits Go.Proofs.YtgemfighmnnmeaaGreat.Valid Go.Proofs.YtgemfighmnnmeaaGreat.FamLaw Go.Proofs.YtgemfighmnnmeaaGreat.Ops Go.Proofs.YtgemfighmnnmeaaGreat.Opens Go.Proofs.YtgemfighmnnmeaaGreat.Crowds Go.Proofs.YtgemfighmnnmeaaGreat.From Go.Proofs.YtgemfighmnnmeaaGreat.Ref Go.Proofs.YtgemfighmnnmeaaGreat.Some

theorem opens_is {gs : List (List Int)} (hg : Smalls gs) {c : Nat} (hc : c < 128) (m : Int) : impl_Family_opens.f m gs (c : Int) = some (openN gs c) := by
 show opensF gs (c : Int) = _
 unfold opensF
 rw [if_pos ⟨hg, by omega, by omega⟩]
 rfl
theorem bytes_of {l : List Int} (h : ∀ x ∈ l, (Lit.int .u8 x).wf = true) : Bytes l := fun x hx => byte_of (h x hx)

end Go.Proofs.YtgemfighmnnmeaaGreat.TMay
