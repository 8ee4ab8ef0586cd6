/- What A2Order draws, and the order that renames back. No program in sight. -/
import Derived.Test.YtmanloolbpmgiaaGx7
import Derived.Test.YtmanloolbpmgiaaRenF
import Derived.Test.YtmanloolbpmgiaaRen
import Derived.Test.YtmanloolbpmgiaaSome
namespace Go.Proofs.Ytmanloolbpmgiaa.TRen
open Go.RowKit Go.Proofs.YtmanloolbpmgiaaW.PrintWords Go.Proofs.YtmanloolbpmgiaaW.PrintMore Go.Proofs.Ytmanloolbpmgiaa.G Go.Proofs.Ytmanloolbpmgiaa.Fam Go.Proofs.Ytmanloolbpmgiaa.Loops Go.Proofs.Ytmanloolbpmgiaa.Valid Go.Proofs.Ytmanloolbpmgiaa.FamLaw Go.Proofs.Ytmanloolbpmgiaa.Ref Go.Proofs.Ytmanloolbpmgiaa.Some Go.Proofs.Ytmanloolbpmgiaa.Order Go.Proofs.Ytmanloolbpmgiaa.OrderLaw Go.Proofs.Ytmanloolbpmgiaa.RenLaw Go.Proofs.Ytmanloolbpmgiaa.RenFam
set_option linter.unusedVariables false
set_option maxRecDepth 100000

/-- A list of all numbers below n, in any order. -/
def AllOnce (n : Nat) (l : List Int) : Prop := l.length = n ∧ (∀ x ∈ l, 0 ≤ x ∧ x < (n : Int)) ∧ ∀ j, j < n → ∃ m, m < n ∧ l.getD m 0 = (j : Int)
theorem full_len : ∀ n : Fin 8, (groupN (2 ^ n.val - 1)).length = n.val := by decide +kernel
theorem good_order {n : Nat} (hn : n ≤ 7) {l : List Int} (h : AllOnce n l) : OrderOk (n : Int) l := by
  obtain ⟨hl, hr, hs⟩ := h
  refine ⟨fun x hx => by have := hr x hx; omega, by omega, ?_⟩
  have he : seenN 0 l = 2 ^ n - 1 := by
    apply Nat.eq_of_testBit_eq
    intro j
    rw [seen_bit, Nat.zero_testBit, Bool.false_or, Nat.testBit_two_pow_sub_one, Bool.eq_iff_iff, List.any_eq_true, decide_eq_true_iff]
    constructor
    · rintro ⟨x, hx, e⟩
      have h1 := hr x hx
      have h2 := of_decide_eq_true e
      omega
    · intro hj
      obtain ⟨m, hm, e⟩ := hs j hj
      refine ⟨l.getD m 0, ?_, decide_eq_true (by omega)⟩
      rw [show l.getD m 0 = l[m]'(by omega) by simp [List.getD, show m < l.length by omega]]
      exact List.getElem_mem _
  rw [he]
  have := full_len ⟨n, by omega⟩
  simp only at this
  omega
theorem getD_set (l : List Int) (i m : Nat) (v : Int) (hi : i < l.length) : (l.set i v).getD m 0 = if m = i then v else l.getD m 0 := by
  simp only [List.getD, List.getElem?_set]
  by_cases h : i = m
  · subst h; simp [hi]
  · rw [if_neg h, if_neg (fun e => h e.symm)]
theorem getD_mem {l : List Int} {m : Nat} (h : m < l.length) : l.getD m 0 ∈ l := by
  rw [show l.getD m 0 = l[m] by simp [List.getD, h]]
  exact List.getElem_mem _
theorem good_swap {n : Nat} {l : List Int} (h : AllOnce n l) {i k : Nat} (hi : i < n) (hk : k < n) : AllOnce n ((l.set i (l.getD k 0)).set k (l.getD i 0)) := by
  obtain ⟨hl, hr, hs⟩ := h
  refine ⟨by simp [hl], fun x hx => ?_, fun j hj => ?_⟩
  · rcases List.mem_or_eq_of_mem_set hx with h1 | h1
    · rcases List.mem_or_eq_of_mem_set h1 with h2 | h2
      · exact hr x h2
      · rw [h2]; exact hr _ (getD_mem (by omega))
    · rw [h1]; exact hr _ (getD_mem (by omega))
  · obtain ⟨m, hm, e⟩ := hs j hj
    have hg : ∀ t, ((l.set i (l.getD k 0)).set k (l.getD i 0)).getD t 0 = if t = k then l.getD i 0 else if t = i then l.getD k 0 else l.getD t 0 := fun t => by
      rw [getD_set _ _ _ _ (by simp [hl]; omega), getD_set _ _ _ _ (by omega)]
    by_cases h1 : m = i
    · exact ⟨k, hk, by rw [hg, if_pos rfl, ← h1, e]⟩
    · by_cases h2 : m = k
      · by_cases h3 : i = k
        · exact absurd (h2.trans h3.symm) h1
        · exact ⟨i, hi, by rw [hg, if_neg h3, if_pos rfl, ← h2, e]⟩
      · exact ⟨m, hm, by rw [hg, if_neg h2, if_neg h1, e]⟩
/-- The numbers below n, rising. -/
def idL (n : Nat) : List Int := (List.range n).map fun k : Nat => (k : Int)
theorem idL_succ (n : Nat) : idL (n + 1) = idL n ++ [(n : Int)] := by unfold idL; rw [List.range_succ, List.map_append]; rfl
theorem idL_len (n : Nat) : (idL n).length = n := by unfold idL; simp
theorem idL_good (n : Nat) : AllOnce n (idL n) := by
  refine ⟨idL_len n, fun x hx => ?_, fun j hj => ⟨j, hj, ?_⟩⟩
  · unfold idL at hx
    obtain ⟨k, hk, rfl⟩ := List.mem_map.1 hx
    have := List.mem_range.1 hk
    omega
  · unfold idL
    simp [List.getD, hj]

theorem order_swap (cd : List Int) (hb : Bytes cd) (n : Nat) (hn : n ≤ 7) : ∀ (i : Nat) (l : List Int) (a s : Int), i < n → AllOnce n l → 0 ≤ a → a + i ≤ 100 → ∃ l', AllOnce n l' ∧ Ev (fun k => spec_A2Order.l1 k l (i : Int) cd a s) l' := by
  intro i
  induction i with
  | zero =>
    intro l a s hi hg ha0 ha
    refine ⟨l, hg, Ev.step (f := fun _ => some l) (fun k => ?_) (Ev.now _)⟩
    simp only [spec_A2Order.l1]
    rw [if_neg (by omega)]
  | succ i ih =>
    intro l a s hi hg ha0 ha
    obtain ⟨r, a2, s2, e, r0, r1, a20, a21⟩ := pick_ok cd hb a s (((i + 1 : Nat) : Int) + 1) ha0 (by omega) (by omega) (by omega)
    obtain ⟨k, rfl⟩ : ∃ k : Nat, r = (k : Int) := ⟨r.toNat, by omega⟩
    have hw : wrap64 (((i + 1 : Nat) : Int) + 1) = ((i + 1 : Nat) : Int) + 1 := wrap_id (by omega) (by omega)
    have hw2 : wrap64 (((i + 1 : Nat) : Int) - 1) = (i : Int) := by rw [wrap_id (by omega) (by omega)]; omega
    have hl := hg.1
    obtain ⟨l', hg', hE⟩ := ih ((l.set (i + 1) (l.getD k 0)).set k (l.getD (i + 1) 0)) a2 s2 (by omega) (good_swap hg (by omega) (by omega)) a20 (by omega)
    refine ⟨l', hg', Ev.step (fun q => ?_) hE⟩
    simp only [spec_A2Order.l1]
    rw [if_pos (by omega), hw, e]
    simp only [Option.bind_some]
    rw [if_pos (by omega), if_pos (by omega), if_pos (by omega), if_pos (by omega), hw2, rd_nat, rd_nat, Int.toNat_natCast, Int.toNat_natCast]
theorem order_first (cd : List Int) (hb : Bytes cd) (n : Nat) (hn1 : 1 ≤ n) (hn : n ≤ 7) (s : Int) : ∀ (d i : Nat), i ≤ n → n - i = d → ∃ l', AllOnce n l' ∧ Ev (fun k => spec_A2Order.l0 k (n : Int) (idL i) (i : Int) cd 0 s) l' := by
  intro d
  induction d with
  | zero =>
    intro i hi hd
    obtain rfl : i = n := by omega
    have hw : wrap64 (((idL i).length : Int) - 1) = ((i - 1 : Nat) : Int) := by rw [idL_len, wrap_id (by omega) (by omega)]; omega
    obtain ⟨l', hg, hE⟩ := order_swap cd hb i hn (i - 1) (idL i) 0 s (by omega) (idL_good i) (by omega) (by omega)
    refine ⟨l', hg, Ev.step (fun k => ?_) hE⟩
    simp only [spec_A2Order.l0]
    rw [if_neg (by omega), hw]
  | succ d ih =>
    intro i hi hd
    have hw : wrap64 ((i : Int) + 1) = ((i + 1 : Nat) : Int) := by rw [wrap_id (by omega) (by omega)]; omega
    obtain ⟨l', hg, hE⟩ := ih (i + 1) (by omega) (by omega)
    refine ⟨l', hg, Ev.step (fun k => ?_) hE⟩
    simp only [spec_A2Order.l0]
    rw [if_pos (by omega), if_pos (by rw [idL_len]; omega), hw, idL_succ]
theorem order_drawn (cd : List Int) (hb : Bytes cd) (n : Nat) (hn1 : 1 ≤ n) (hn : n ≤ 7) : ∃ l, AllOnce n l ∧ Ev (fun k => spec_A2Order.f k cd (n : Int)) l := by
  obtain ⟨l, hg, hE⟩ := order_first cd hb n hn1 hn 0 n 0 (by omega) (by omega)
  exact ⟨l, hg, hE⟩

/-! ### the order that renames back -/
def backL (n : Nat) (order : List Int) (i : Nat) : List Int := (List.range i).foldl (fun b j => b.set (ordN order j) (j : Int)) (List.replicate n 0)
theorem backL_succ (n : Nat) (order : List Int) (i : Nat) : backL n order (i + 1) = (backL n order i).set (ordN order i) (i : Int) := by
  unfold backL; rw [List.range_succ, List.foldl_append]; rfl
theorem backL_len (n : Nat) (order : List Int) : ∀ i, (backL n order i).length = n
  | 0 => by simp [backL]
  | i + 1 => by rw [backL_succ, List.length_set]; exact backL_len n order i
theorem ord_at {n : Nat} {l : List Int} (h : AllOnce n l) {j : Nat} (hj : j < n) : ordN l j < n ∧ l.getD j 0 = (ordN l j : Int) := by
  have := h.2.1 _ (getD_mem (l := l) (m := j) (by have := h.1; omega))
  unfold ordN
  omega
theorem backL_spec {n : Nat} (hn : n ≤ 7) {order : List Int} (h : AllOnce n order) : ∀ i, i ≤ n → (∀ x ∈ backL n order i, x = 0 ∨ (0 ≤ x ∧ x < (n : Int))) ∧ ∀ j, j < i → (backL n order i).getD (ordN order j) 0 = (j : Int)
  | 0, _ => ⟨fun x hx => .inl (by unfold backL at hx; simp at hx; exact hx.2), fun j hj => by omega⟩
  | i + 1, hi => by
    obtain ⟨h1, h2⟩ := backL_spec hn h i (by omega)
    rw [backL_succ]
    refine ⟨fun x hx => ?_, fun j hj => ?_⟩
    · rcases List.mem_or_eq_of_mem_set hx with h3 | h3
      · exact h1 x h3
      · exact .inr (by omega)
    · rw [getD_set _ _ _ _ (by rw [backL_len]; exact (ord_at h (by omega)).1)]
      by_cases e : j = i
      · subst e; rw [if_pos rfl]
      · rw [if_neg (fun he => e (ord_inj hn (good_order hn h) j i (by omega) (by omega) he))]
        exact h2 j (by omega)
theorem back_ord {n : Nat} (hn : n ≤ 7) {order : List Int} (h : AllOnce n order) {j : Nat} (hj : j < n) : ordN (backL n order n) (ordN order j) = j := by
  have := (backL_spec hn h n (Nat.le_refl _)).2 j hj
  unfold ordN at this ⊢
  rw [this]
  omega
theorem back_good {n : Nat} (hn : n ≤ 7) {order : List Int} (h : AllOnce n order) : AllOnce n (backL n order n) := by
  refine ⟨backL_len n order n, fun x hx => ?_, fun j hj => ⟨ordN order j, (ord_at h hj).1, (backL_spec hn h n (Nat.le_refl _)).2 j hj⟩⟩
  have hpos : 0 < n := by
    have := List.length_pos_of_mem hx
    rw [backL_len] at this
    exact this
  rcases (backL_spec hn h n (Nat.le_refl _)).1 x hx with h1 | h1
  · omega
  · exact h1

/-! ### images and renamed groups -/
theorem img_lt {n : Nat} {o : Nat → Nat} (ho : ∀ k, k < n → o k < n) (c : Nat) : imgB n o c < 2 ^ n := by
  apply Nat.lt_pow_two_of_testBit
  intro i hi
  cases h : (imgB n o c).testBit i with
  | false => rfl
  | true =>
    obtain ⟨k, hk, _, e⟩ := (img_bit n o c i).1 h
    have := ho k hk
    omega
theorem img_sub {n : Nat} {o : Nat → Nat} {c d : Nat} (h : d &&& c = c) : imgB n o d &&& imgB n o c = imgB n o c := by
  rw [covers_iff] at h ⊢
  intro j hj
  obtain ⟨k, hk, hb, e⟩ := (img_bit n o c j).1 hj
  exact (img_bit n o d j).2 ⟨k, hk, h k hb, e⟩
/-- The image under the one order is the renamed group under the other. -/
theorem img_ren {n : Nat} {o p : Nat → Nat} (ho : ∀ k, k < n → o k < n) (hop : ∀ k, k < n → p (o k) = k) (hs : ∀ h, h < n → ∃ k, k < n ∧ o k = h) (c : Nat) : imgB n o c = renB n p c := by
  apply Nat.eq_of_testBit_eq
  intro j
  rw [Bool.eq_iff_iff, img_bit, ren_bit]
  constructor
  · rintro ⟨k, hk, hb, rfl⟩
    exact ⟨ho k hk, by rw [hop k hk]; exact hb⟩
  · rintro ⟨hj, hb⟩
    obtain ⟨k, hk, rfl⟩ := hs j hj
    rw [hop k hk] at hb
    exact ⟨k, hk, hb, rfl⟩
theorem img_img {n : Nat} {o p : Nat → Nat} (ho : ∀ k, k < n → o k < n) (hp : ∀ k, k < n → p k < n) (hop : ∀ k, k < n → o (p k) = k) {c : Nat} (hc : c < 2 ^ n) : imgB n o (imgB n p c) = c := by
  apply Nat.eq_of_testBit_eq
  intro j
  rw [Bool.eq_iff_iff, img_bit]
  constructor
  · rintro ⟨k, hk, hb, rfl⟩
    obtain ⟨m, hm, hb2, rfl⟩ := (img_bit n p c k).1 hb
    rw [hop m hm]
    exact hb2
  · intro hb
    have hj := lt_of_bit hc hb
    exact ⟨p j, hp j hj, (img_bit n p c _).2 ⟨j, hj, hb, rfl⟩, hop j hj⟩
theorem ren_mono {n : Nat} {gs : List (List Int)} (hm : Mono n (openN gs)) {o : Nat → Nat} (ho : ∀ k, k < n → o k < n) : Mono n (fun c => openN gs (imgB n o c)) := fun c d hc hd hsub hp => hm _ _ (img_lt ho c) (img_lt ho d) (img_sub hsub) hp

end Go.Proofs.Ytmanloolbpmgiaa.TRen
