/- The reference's l01Order: whether a list holds each of so many holders once. KEY R (ren.roots). What l01Order asks: the list is a permutation. No program in sight. KEY R. A family out of groups in any order. No program in sight. The renamed family, as a plain law: what the program's predicate gives is the sorted list of the renamed groups. KEY R. -/
import Derived.Test.YtmanloolbpmgiaaGx6
import Derived.Test.YtmanloolbpmgiaaFam
import Derived.Test.YtmanloolbpmgiaaRenLaw
import Derived.Test.YtmanloolbpmgiaaBits
namespace Go.Proofs.Ytmanloolbpmgiaa.Order
open Go.RowKit Go.Lib Go.Proofs Go.Proofs.YtmanloolbpmgiaaW.PrintWords Go.Proofs.YtmanloolbpmgiaaW.PrintWords.Kd Go.Proofs.YtmanloolbpmgiaaW.PrintLast Go.Proofs.YtmanloolbpmgiaaW.PrintMore Go.Proofs.Ytmanloolbpmgiaa.G Go.Proofs.Ytmanloolbpmgiaa.Fam Go.Proofs.Ytmanloolbpmgiaa.Loops
set_option linter.unusedVariables false
set_option linter.unusedSimpArgs false

theorem put_all : ∀ c : Nat, c < 128 → ∀ x : Nat, x < 7 → spec_l00Put.f 20 (groupN c) (x : Int) = some (groupN (c ||| 1 <<< x)) := by decide +kernel
theorem put_ev (c : Nat) (hc : c < 128) (x : Nat) (hx : x < 7) : Ev (fun k => spec_l00Put.f k (groupN c) (x : Int)) (groupN (c ||| 1 <<< x)) :=
  Ev.of (g := fun k => spec_l00Put.f k (groupN c) (x : Int)) (fun k => spec_l00Put.mono _ _ k) (put_all c hc x hx)
theorem lin_is (a b c : Int) : spec_l00In.f a b c = some (decide (b ≤ a ∧ a ≤ c)) := by
  unfold spec_l00In.f
  by_cases h : a ≥ b
  · rw [if_pos h]; congr 1; apply decide_eq_decide.2; omega
  · rw [if_neg h]; congr 1; symm; apply decide_eq_false; omega
/-- The set of a list's holders, on top of one that is there. -/
def seenN (c : Nat) (l : List Int) : Nat := l.foldl (fun b h => b ||| 1 <<< h.toNat) c
/-- Each of n holders once. -/
def OrderOk (n : Int) (order : List Int) : Prop := (∀ x ∈ order, 0 ≤ x ∧ x ≤ n - 1) ∧ (order.length : Int) = n ∧ ((groupN (seenN 0 order)).length : Int) = n
instance (n : Int) (order : List Int) : Decidable (OrderOk n order) := by unfold OrderOk; exact inferInstance
theorem or_seven {c x : Nat} (hc : c < 128) (hx : x < 7) : c ||| 1 <<< x < 128 := by
  have h : 1 <<< x < 2 ^ 7 := by rw [Nat.one_shiftLeft]; exact Nat.pow_lt_pow_right (by omega) hx
  exact Nat.or_lt_two_pow (n := 7) hc h
theorem order_loop (n : Int) (hn : 1 ≤ n ∧ n ≤ 7) (order : List Int) (hl : order.length ≤ 9223372036854775807) : ∀ (d i c : Nat), i ≤ order.length → order.length - i = d → c < 128 →
    Ev (fun k => spec_l01Order.l0 k order n (groupN c) (i : Int)) (decide ((∀ x ∈ order.drop i, 0 ≤ x ∧ x ≤ n - 1) ∧ (order.length : Int) = n ∧ ((groupN (seenN c (order.drop i))).length : Int) = n)) := by
  have hw1 : wrap64 (n - 1) = n - 1 := wrap_id (by omega) (by omega)
  intro d
  induction d with
  | zero =>
    intro i c hi hd hc
    obtain rfl : i = order.length := by omega
    have hdr : order.drop order.length = [] := List.drop_length
    rw [hdr]
    refine Ev.step (f := fun _ => some (decide ((∀ x ∈ ([] : List Int), 0 ≤ x ∧ x ≤ n - 1) ∧ (order.length : Int) = n ∧ ((groupN (seenN c [])).length : Int) = n))) (fun k => ?_) (Ev.now _)
    simp only [spec_l01Order.l0]
    rw [if_neg (by omega)]
    by_cases h : (order.length : Int) = n
    · rw [if_pos h]
      congr 1
      rw [Bool.eq_iff_iff, beq_iff_eq, decide_eq_true_iff]
      exact ⟨fun h2 => ⟨fun x hx => (nomatch hx), h, h2⟩, fun h2 => h2.2.2⟩
    · rw [if_neg h]
      congr 1
      symm
      exact decide_eq_false (fun h2 => h h2.2.1)
  | succ d ih =>
    intro i c hi hd hc
    have hlt : i < order.length := by omega
    have hdr : order.drop i = order.getD i 0 :: order.drop (i + 1) := by
      rw [List.drop_eq_getElem_cons hlt]
      congr 1
      simp [List.getD, hlt]
    have hw : wrap64 ((i : Int) + 1) = ((i + 1 : Nat) : Int) := by rw [wrap_id (by omega) (by omega)]; omega
    by_cases hx : 0 ≤ order.getD i 0 ∧ order.getD i 0 ≤ n - 1
    · obtain ⟨x, hxe⟩ : ∃ x : Nat, order.getD i 0 = (x : Int) := ⟨(order.getD i 0).toNat, by omega⟩
      have hx7 : x < 7 := by omega
      have h1 := ih (i + 1) (c ||| 1 <<< x) (by omega) (by omega) (or_seven hc hx7)
      have hseen : seenN c (order.drop i) = seenN (c ||| 1 <<< x) (order.drop (i + 1)) := by
        rw [hdr, hxe]
        unfold seenN
        rw [List.foldl_cons, Int.toNat_natCast]
      have hall : (∀ y ∈ order.drop i, 0 ≤ y ∧ y ≤ n - 1) ↔ ∀ y ∈ order.drop (i + 1), 0 ≤ y ∧ y ≤ n - 1 := by
        rw [hdr]
        constructor
        · intro h y hy
          exact h y (List.mem_cons_of_mem _ hy)
        · intro h y hy
          rcases List.mem_cons.1 hy with rfl | hy
          · exact hx
          · exact h y hy
      simp only [hseen, hall]
      refine Ev.step (f := fun k => (spec_l00Put.f k (groupN c) (x : Int)).bind fun t => spec_l01Order.l0 k order n t ((i + 1 : Nat) : Int)) (fun k => ?_) (Ev.bind (put_ev c hc x hx7) h1)
      simp only [spec_l01Order.l0]
      rw [if_pos (by omega), if_pos (by omega), rd_nat, lin_is, hw1, decide_eq_true hx]
      simp only [Option.bind_some, if_true]
      rw [hxe, hw]
    · have hno : decide ((∀ x ∈ order.drop i, 0 ≤ x ∧ x ≤ n - 1) ∧ (order.length : Int) = n ∧ ((groupN (seenN c (order.drop i))).length : Int) = n) = false := by
        apply decide_eq_false
        intro h
        apply hx
        apply h.1
        rw [hdr]
        exact List.mem_cons_self
      rw [hno]
      refine Ev.step (f := fun _ => some false) (fun k => ?_) (Ev.now _)
      simp only [spec_l01Order.l0]
      rw [if_pos (by omega), if_pos (by omega), rd_nat, lin_is, hw1, decide_eq_false hx]
      simp
theorem order_calls (n : Int) (hn : 1 ≤ n ∧ n ≤ 7) (A : Option Addr) (c : Nat) (order : List Int) (W : World) (hC : Kd.C (Kd.int .i64) W A order.length order) (hc : order.length ≤ c) :
    Calls Try.prog 79 #[.slice A order.length c, .int .i64 n] W fun e w' => e = .returned (.bool (decide (OrderOk n order))) ∧ Below W.heap.size W w' := by
  have h := order_loop n hn order hC.2.1 order.length 0 0 (Nat.zero_le _) (Nat.sub_zero _) (by omega)
  obtain ⟨k, hk⟩ := h.rounds
  exact spec_l01Order.calls k A c order n _ W hC hc hk
end Go.Proofs.Ytmanloolbpmgiaa.Order

namespace Go.Proofs.Ytmanloolbpmgiaa.OrderLaw
open Go.Proofs.Ytmanloolbpmgiaa.Fam Go.Proofs.Ytmanloolbpmgiaa.Order Go.Proofs.Ytmanloolbpmgiaa.RenLaw
theorem full_all : ∀ n : Nat, n < 8 → ∀ c : Nat, c < 128 → c < 2 ^ n → (groupN c).length = n → ∀ h : Nat, h < n → c.testBit h = true := by decide +kernel
theorem seen_bit : ∀ (l : List Int) (s j : Nat), (seenN s l).testBit j = (s.testBit j || l.any fun x => decide (x.toNat = j))
  | [], s, j => by simp [seenN]
  | x :: l, s, j => by
    have h := seen_bit l (s ||| 1 <<< x.toNat) j
    unfold seenN at h ⊢
    rw [List.foldl_cons, h, List.any_cons, Nat.testBit_or, Nat.one_shiftLeft, Nat.testBit_two_pow, Bool.or_assoc]
/-- The holder that takes number k. -/
def ordN (order : List Int) (k : Nat) : Nat := (order.getD k 0).toNat
theorem ord_surj {n : Nat} (hn : n ≤ 7) {order : List Int} (h : OrderOk (n : Int) order) : ∀ j, j < n → ∃ k, k < n ∧ ordN order k = j := by
  obtain ⟨hr, hl, hs⟩ := h
  have hb : ∀ j, n ≤ j → (seenN 0 order).testBit j = false := fun j hj => by
    rw [seen_bit, Nat.zero_testBit, Bool.false_or, List.any_eq_false]
    intro x hx hc
    have h1 := hr x hx
    have h2 := of_decide_eq_true hc
    omega
  have hlt : seenN 0 order < 2 ^ n := Nat.lt_pow_two_of_testBit _ (fun i hi => hb i hi)
  have h128 : seenN 0 order < 128 := Nat.lt_of_lt_of_le hlt (by have := Nat.pow_le_pow_right (n := 2) (by omega) hn; simpa using this)
  intro j hj
  have h1 := full_all n (by omega) _ h128 hlt (by omega) j hj
  rw [seen_bit, Nat.zero_testBit, Bool.false_or, List.any_eq_true] at h1
  obtain ⟨x, hx, hc⟩ := h1
  have h2 := of_decide_eq_true hc
  obtain ⟨k, hk, rfl⟩ := List.mem_iff_getElem.1 hx
  refine ⟨k, by omega, ?_⟩
  unfold ordN
  rw [show order.getD k 0 = order[k] by simp [List.getD, hk]]
  exact h2
theorem ord_inj {n : Nat} (hn : n ≤ 7) {order : List Int} (h : OrderOk (n : Int) order) : ∀ k j, k < n → j < n → ordN order k = ordN order j → k = j := inj_of_surj n _ (ord_surj hn h)
theorem ord_covers {n : Nat} (hn : n ≤ 7) {order : List Int} (h : OrderOk (n : Int) order) (b c : Nat) (hb : ∀ j, b.testBit j = true → j < n) :
    c &&& renB n (ordN order) b = renB n (ordN order) b ↔ imgB n (ordN order) c &&& b = b := ren_covers n _ (ord_surj hn h) (ord_inj hn h) b c hb
end Go.Proofs.Ytmanloolbpmgiaa.OrderLaw

namespace Go.Proofs.Ytmanloolbpmgiaa.RenSort
open Go.Proofs.Ytmanloolbpmgiaa.Fam Go.Proofs.Ytmanloolbpmgiaa.Valid Go.Proofs.Ytmanloolbpmgiaa.FamLaw
theorem openN_perm {l m : List (List Int)} (h : l.Perm m) (c : Nat) : openN l c = openN m c := by
  unfold openN
  rw [Bool.eq_iff_iff, List.any_eq_true, List.any_eq_true]
  exact ⟨fun ⟨g, hg, hx⟩ => ⟨g, h.mem_iff.1 hg, hx⟩, fun ⟨g, hg, hx⟩ => ⟨g, h.mem_iff.2 hg, hx⟩⟩
/-- Neither within the other. -/
def Free2 (a b : List Int) : Prop := ¬ bitsN a &&& bitsN b = bitsN b ∧ ¬ bitsN b &&& bitsN a = bitsN a
theorem famN_unsorted {n : Nat} (hn : 1 ≤ n ∧ n ≤ 7) {l : List (List Int)} (hg : ∀ g ∈ l, isGroupN n g) (hp : l.Pairwise Free2) : famN n (openN l) = l.mergeSort leL := by
  have hperm := List.mergeSort_perm l leL
  have hv : ValidF (n : Int) (l.mergeSort leL) := by
    refine ⟨by omega, fun g h => by rw [Int.toNat_natCast]; exact hg g (hperm.mem_iff.1 h), ?_⟩
    have h1 : (l.mergeSort leL).Pairwise (fun a b => leL a b = true) := sort_sorted _
    have h2 : (l.mergeSort leL).Pairwise Free2 := (hperm.symm.pairwise_iff (fun {a b} h => ⟨h.2, h.1⟩)).1 hp
    refine (h1.and h2).imp ?_
    rintro a b ⟨h, hf⟩
    have hne : a ≠ b := fun e => by subst e; exact hf.1 (Nat.and_self _)
    have h3 : ¬ cmpL b a < 0 := by simpa [leL] using h
    have h4 := cmpL_neg a b
    have h5 : cmpL a b ≠ 0 := fun e => hne (cmpL_zero a b e)
    refine ⟨by omega, ?_⟩
    first | exact hf | exact ⟨hf.1, hf.2⟩ | exact ⟨hf.2, hf.1⟩
  rw [← famN_openN hn.2 hv]
  exact famN_congr (fun c _ => openN_perm hperm.symm c)
end Go.Proofs.Ytmanloolbpmgiaa.RenSort

namespace Go.Proofs.Ytmanloolbpmgiaa.RenFam
open Go.Proofs.Ytmanloolbpmgiaa.Fam Go.Proofs.Ytmanloolbpmgiaa.Valid Go.Proofs.Ytmanloolbpmgiaa.FamLaw Go.Proofs.Ytmanloolbpmgiaa.Order Go.Proofs.Ytmanloolbpmgiaa.RenLaw Go.Proofs.Ytmanloolbpmgiaa.OrderLaw Go.Proofs.Ytmanloolbpmgiaa.RenSort
theorem ren_sub {n : Nat} {o : Nat → Nat} (hs : ∀ h, h < n → ∃ k, k < n ∧ o k = h) {a b : Nat} (hb : ∀ j, b.testBit j = true → j < n) (h : renB n o a &&& renB n o b = renB n o b) : a &&& b = b := by
  rw [covers_iff] at h ⊢
  intro j hj
  obtain ⟨k, hk, rfl⟩ := hs j (hb j hj)
  exact ((ren_bit n o a k).1 (h k ((ren_bit n o b k).2 ⟨hk, hj⟩))).2
theorem ren_lt (n : Nat) (o : Nat → Nat) (b : Nat) : renB n o b < 2 ^ n := by
  apply Nat.lt_pow_two_of_testBit
  intro i hi
  cases h : (renB n o b).testBit i with
  | false => rfl
  | true => have := (ren_bit n o b i).1 h; omega
/-- A renamed group. -/
def renG (n : Nat) (order : List Int) (g : List Int) : List Int := groupN (renB n (ordN order) (bitsN g))
theorem ren_family {n : Nat} (hn : 1 ≤ n ∧ n ≤ 7) {order : List Int} (ho : OrderOk (n : Int) order) {gs : List (List Int)} (hv : ValidF (n : Int) gs) :
    famN n (fun c => openN gs (imgB n (ordN order) c)) = (gs.map (renG n order)).mergeSort leL := by
  obtain ⟨_, hg, hp⟩ := hv
  rw [Int.toNat_natCast] at hg
  have hbits : ∀ g ∈ gs, ∀ j, (bitsN g).testBit j = true → j < n := fun g h j hj => lt_of_bit (bitsN_lt (hg g h).1) hj
  have hren : ∀ g, bitsN (renG n order g) = renB n (ordN order) (bitsN g) := fun g => bitsN_groupN (Nat.lt_of_lt_of_le (ren_lt n _ _) (by have := Nat.pow_le_pow_right (n := 2) (by omega) hn.2; simpa using this))
  rw [← famN_unsorted hn (l := gs.map (renG n order)) ?_ ?_]
  · refine famN_congr (fun c _ => ?_)
    unfold openN
    rw [Bool.eq_iff_iff, List.any_eq_true, List.any_eq_true]
    constructor
    · rintro ⟨g, h, hx⟩
      refine ⟨_, List.mem_map.2 ⟨g, h, rfl⟩, decide_eq_true ?_⟩
      rw [hren]
      exact (ord_covers hn.2 ho _ c (hbits g h)).2 (of_decide_eq_true hx)
    · rintro ⟨x, hx, hc⟩
      obtain ⟨g, h, rfl⟩ := List.mem_map.1 hx
      have h1 := of_decide_eq_true hc
      rw [hren] at h1
      exact ⟨g, h, decide_eq_true ((ord_covers hn.2 ho _ c (hbits g h)).1 h1)⟩
  · intro x hx
    obtain ⟨g, h, rfl⟩ := List.mem_map.1 hx
    exact groupN_is hn.2 (ren_lt n _ _)
  · rw [List.pairwise_map]
    refine hp.imp_of_mem ?_
    intro a b ha hb hab
    unfold Free2
    rw [hren, hren]
    exact ⟨fun h => hab.2.1 (ren_sub (ord_surj hn.2 ho) (hbits b hb) h), fun h => hab.2.2 (ren_sub (ord_surj hn.2 ho) (hbits a ha) h)⟩
end Go.Proofs.Ytmanloolbpmgiaa.RenFam
