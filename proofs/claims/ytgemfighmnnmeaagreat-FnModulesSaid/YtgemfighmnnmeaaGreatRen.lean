/- The reference's l01Order: whether a list holds each of so many holders once. KEY R (ren.roots). What l01Order asks: the list is a permutation. No program in sight. KEY R. -/
import Derived.Test.YtgemfighmnnmeaaGreatFam
import Derived.Test.YtgemfighmnnmeaaGreatBits
import Derived.Test.YtgemfighmnnmeaaGreatRenLaw
namespace Go.Proofs.YtgemfighmnnmeaaGreat.Order
open Go.RowKit Go.Lib Go.Proofs Go.Proofs.YtgemfighmnnmeaaGreatW.PrintWords Go.Proofs.YtgemfighmnnmeaaGreatW.PrintWords.Kd Go.Proofs.YtgemfighmnnmeaaGreatW.PrintLast Go.Proofs.YtgemfighmnnmeaaGreatW.PrintMore Go.Proofs.YtgemfighmnnmeaaGreat.G Go.Proofs.YtgemfighmnnmeaaGreat.Fam Go.Proofs.YtgemfighmnnmeaaGreat.Loops
set_option linter.unusedVariables false
set_option linter.unusedSimpArgs false

/-- The set of a list's holders, on top of one that is there. -/
def seenN (c : Nat) (l : List Int) : Nat := l.foldl (fun b h => b ||| 1 <<< h.toNat) c
/-- Each of n holders once. -/
def OrderOk (n : Int) (order : List Int) : Prop := (∀ x ∈ order, 0 ≤ x ∧ x ≤ n - 1) ∧ (order.length : Int) = n ∧ ((groupN (seenN 0 order)).length : Int) = n
instance (n : Int) (order : List Int) : Decidable (OrderOk n order) := by unfold OrderOk; exact inferInstance
theorem or_seven {c x : Nat} (hc : c < 128) (hx : x < 7) : c ||| 1 <<< x < 128 := by
 have h : 1 <<< x < 2 ^ 7 := by rw [Nat.one_shiftLeft]; exact Nat.pow_lt_pow_right (by omega) hx
 exact Nat.or_lt_two_pow (n := 7) hc h
end Go.Proofs.YtgemfighmnnmeaaGreat.Order

namespace Go.Proofs.YtgemfighmnnmeaaGreat.OrderLaw
open Go.Proofs.YtgemfighmnnmeaaGreat.Fam Go.Proofs.YtgemfighmnnmeaaGreat.Order Go.Proofs.YtgemfighmnnmeaaGreat.RenLaw
theorem full_all : ∀ n : Nat, n < 8 → ∀ c : Nat, c < 128 → c < 2 ^ n → (groupN c).length = n → ∀ h : Nat, h < n → c.testBit h = true := by decide +kernel
theorem seen_bit : ∀ (l : List Int) (s j : Nat), (seenN s l).testBit j = (s.testBit j || l.any fun x => decide (x.toNat = j))
 | [], s, j => by simp [seenN]
 | x :: l, s, j => by
  have h := seen_bit l (s ||| 1 <<< x.toNat) j
  unfold seenN at h ⊢
  rw [List.foldl_cons, h, List.any_cons, Nat.testBit_or, Nat.one_shiftLeft, Nat.testBit_two_pow, Bool.or_assoc]
/-- The holder that takes number k. -/
def ordN (order : List Int) (k : Nat) : Nat := (order.getD k 0).toNat
theorem ord_surj {n : Nat} (hn : n ≤ 7) {order : List Int} (h : OrderOk (n : Int) order) : ∀ j, j < n → ∃ k, k < n ∧ ordN order k = j := by
 obtain ⟨hr, hl, hs⟩ := h
 have hb : ∀ j, n ≤ j → (seenN 0 order).testBit j = false := fun j hj => by
  rw [seen_bit, Nat.zero_testBit, Bool.false_or, List.any_eq_false]
  intro x hx hc
  have h1 := hr x hx
  have h2 := of_decide_eq_true hc
  omega
 have hlt : seenN 0 order < 2 ^ n := Nat.lt_pow_two_of_testBit _ (fun i hi => hb i hi)
 have h128 : seenN 0 order < 128 := Nat.lt_of_lt_of_le hlt (by have := Nat.pow_le_pow_right (n := 2) (by omega) hn; simpa using this)
 intro j hj
 have h1 := full_all n (by omega) _ h128 hlt (by omega) j hj
 rw [seen_bit, Nat.zero_testBit, Bool.false_or, List.any_eq_true] at h1
 obtain ⟨x, hx, hc⟩ := h1
 have h2 := of_decide_eq_true hc
 obtain ⟨k, hk, rfl⟩ := List.mem_iff_getElem.1 hx
 refine ⟨k, by omega, ?_⟩
 unfold ordN
 rw [show order.getD k 0 = order[k] by simp [List.getD, hk]]
 exact h2
theorem ord_inj {n : Nat} (hn : n ≤ 7) {order : List Int} (h : OrderOk (n : Int) order) : ∀ k j, k < n → j < n → ordN order k = ordN order j → k = j := inj_of_surj n _ (ord_surj hn h)
theorem ord_covers {n : Nat} (hn : n ≤ 7) {order : List Int} (h : OrderOk (n : Int) order) (b c : Nat) (hb : ∀ j, b.testBit j = true → j < n) :
  c &&& renB n (ordN order) b = renB n (ordN order) b ↔ imgB n (ordN order) c &&& b = b := ren_covers n _ (ord_surj hn h) (ord_inj hn h) b c hb
end Go.Proofs.YtgemfighmnnmeaaGreat.OrderLaw
