/- The program's isGroup and isOrder: an order of n holders holds each of them. -/
import Derived.Test.YtdahdeohmbadhaaVals0
import Derived.Test.YtdahdeohmbadhaaTValid
import Derived.Test.YtdahdeohmbadhaaGx7
namespace Go.Proofs.Ytdahdeohmbadhaa.TOrd
open Go.RowKit Go.Lib Go.Proofs Go.Proofs.YtdahdeohmbadhaaW.PrintWords Go.Proofs.YtdahdeohmbadhaaW.PrintWords.Kd Go.Proofs.YtdahdeohmbadhaaW.PrintLast Go.Proofs.YtdahdeohmbadhaaW.PrintMore Go.Proofs.Ytdahdeohmbadhaa.G Go.Proofs.Ytdahdeohmbadhaa.Fam Go.Proofs.Ytdahdeohmbadhaa.Loops Go.Proofs.Ytdahdeohmbadhaa.Sorting Go.Proofs.Ytdahdeohmbadhaa.Vals Go.Proofs.Ytdahdeohmbadhaa.TValid
set_option linter.unusedVariables false
set_option linter.unusedSimpArgs false

instance (n : Nat) (g : List Int) : Decidable (isGroupN n g) := by unfold isGroupN; exact inferInstance
/-- isGroup, from an index on. -/
theorem isGroup_loop (m : Int) (g : List Int) (hm : 0 ≤ m) (hm2 : m < 9223372036854775807) (hl : g.length ≤ 9223372036854775807) : ∀ (d k n : Nat), n ≤ g.length → g.length - n = d → d < k →
    ∃ b, impl_isGroup.l0 k m g g (g.length : Int) (n : Int) = some b ∧ (b = true ↔ ∀ i, i < g.length → n ≤ i → (0 ≤ g.getD i 0 ∧ g.getD i 0 < m) ∧ (0 < i → g.getD (i - 1) 0 < g.getD i 0)) := by
  intro d
  induction d with
  | zero =>
    intro k n hn hd hk
    obtain ⟨k, rfl⟩ : ∃ j, k = j + 1 := ⟨k - 1, by omega⟩
    refine ⟨true, ?_, ?_⟩
    · simp only [impl_isGroup.l0]; rw [if_neg (by omega)]
    · simp only [true_iff]; intro i hi h; omega
  | succ d ih =>
    intro k n hn hd hk
    obtain ⟨k, rfl⟩ : ∃ j, k = j + 1 := ⟨k - 1, by omega⟩
    have hlt : n < g.length := by omega
    simp only [impl_isGroup.l0]
    rw [if_pos (by omega), if_pos (by omega), if_pos (by omega), rd_nat, within_is, wrap_id (by omega) (by omega)]
    simp only [Option.bind_some, decide_eq_true_eq]
    by_cases h1 : 0 ≤ g.getD n 0 ∧ g.getD n 0 ≤ m - 1
    · rw [if_pos h1]
      obtain ⟨b, hb, hb'⟩ := ih k (n + 1) (by omega) (by omega) (by omega)
      have hnext : ((n : Int) + 1) = ((n + 1 : Nat) : Int) := by omega
      by_cases h2 : (n : Int) > 0
      · rw [if_pos h2, wrap_id (by omega) (by omega), if_pos (by omega), if_pos (by omega)]
        have hprev : ((n : Int) - 1) = ((n - 1 : Nat) : Int) := by omega
        rw [hprev, rd_nat]
        by_cases h3 : g.getD n 0 ≤ g.getD (n - 1) 0
        · rw [if_pos h3]
          refine ⟨false, rfl, ?_⟩
          simp only [Bool.false_eq_true, false_iff]
          intro h
          have := (h n hlt (Nat.le_refl _)).2 (by omega)
          omega
        · rw [if_neg h3, wrap_id (by omega) (by omega), hnext]
          refine ⟨b, hb, hb'.trans ⟨fun h i hi hni => ?_, fun h i hi hni => h i hi (by omega)⟩⟩
          by_cases e : i = n
          · subst e; exact ⟨by omega, fun _ => by omega⟩
          · exact h i hi (by omega)
      · rw [if_neg h2, wrap_id (by omega) (by omega), hnext]
        refine ⟨b, hb, hb'.trans ⟨fun h i hi hni => ?_, fun h i hi hni => h i hi (by omega)⟩⟩
        by_cases e : i = n
        · subst e; exact ⟨by omega, fun _ => by omega⟩
        · exact h i hi (by omega)
    · rw [if_neg h1]
      refine ⟨false, rfl, ?_⟩
      simp only [Bool.false_eq_true, false_iff]
      intro h
      have := (h n hlt (Nat.le_refl _)).1
      omega
theorem getD_of {g : List Int} {i : Nat} (hi : i < g.length) : g.getD i 0 = g[i] := by simp [List.getD, List.getElem?_eq_getElem hi]
theorem pairwise_adj (g : List Int) : g.Pairwise (· < ·) ↔ ∀ i, i < g.length → 0 < i → g.getD (i - 1) 0 < g.getD i 0 := by
  constructor
  · intro h i hi h0
    rw [getD_of hi, getD_of (show i - 1 < g.length by omega)]
    exact List.pairwise_iff_getElem.1 h (i - 1) i (by omega) hi (by omega)
  · intro h
    have key : ∀ j i, j < g.length → i < j → g.getD i 0 < g.getD j 0 := by
      intro j
      induction j with
      | zero => intro i _ hi; omega
      | succ j ih =>
        intro i hj hij
        have h1 := h (j + 1) hj (by omega)
        simp only [Nat.add_sub_cancel] at h1
        by_cases e : i = j
        · subst e; exact h1
        · have := ih i (by omega) (by omega); omega
    rw [List.pairwise_iff_getElem]
    intro i j hi hj hij
    have := key j i hj hij
    rwa [getD_of hi, getD_of hj] at this
theorem isGroup_is (n : Nat) (g : List Int) (k : Nat) (hn : n < 9223372036854775807) (hl : g.length ≤ 9223372036854775807) (hk : g.length < k) : impl_isGroup.f k (n : Int) g = some (decide (isGroupN n g)) := by
  unfold impl_isGroup.f
  obtain ⟨b, hb, hb'⟩ := isGroup_loop n g (by omega) (by omega) hl g.length k 0 (by omega) (by omega) hk
  rw [show ((0 : Nat) : Int) = 0 from rfl] at hb
  rw [hb]
  congr 1
  rw [Bool.eq_iff_iff, hb', decide_eq_true_iff]
  unfold isGroupN
  rw [pairwise_adj]
  constructor
  · intro h
    refine ⟨fun x hx => ?_, fun i hi h0 => (h i hi (by omega)).2 h0⟩
    obtain ⟨i, hi, rfl⟩ := List.mem_iff_getElem.1 hx
    have := (h i hi (by omega)).1
    rwa [getD_of hi] at this
  · rintro ⟨h1, h2⟩ i hi _
    rw [getD_of hi]
    refine ⟨h1 _ (List.getElem_mem hi), fun h0 => ?_⟩
    have := h2 i hi h0
    rwa [getD_of hi] at this
/-- A row's element number i, as the walk reads it. -/
theorem elem_at {α : Type} {d : Kd α} (hs : d.sz = 1) {w : World} {A : Option Addr} {n : Nat} {xs : List α} (h : d.C w A n xs) (i : Nat) (hi : i < xs.length) :
    ∃ ad v, A = some ad ∧ w.cell? (ad.add i) = some v ∧ d.K w xs[i] [v] := by
  have hn := h.1
  obtain ⟨ad, e, hc⟩ := h.2.2 (by omega)
  obtain ⟨c, hl, hK, hcell⟩ := hc i xs[i] (List.getElem?_eq_getElem hi)
  match c, hl, hK, hcell with
  | [v], _, hK, hcell => exact ⟨ad, v, e, by have := hcell 0 v rfl; rwa [hs, Nat.mul_one, Nat.add_zero] at this, hK⟩
  | [], hl, _, _ => simp [hs] at hl
  | _ :: _ :: _, hl, _, _ => simp [hs] at hl
theorem ints_of {W : World} {A : Option Addr} {cap : Nat} {l : List Int} (h : Kd.C (Kd.int .i64) W A l.length l) (hp : 0 < l.length) : Ints W.heap.size W (.slice A l.length cap) l := by
  obtain ⟨ad, v, e, hc, hK⟩ := elem_at (d := Kd.int .i64) rfl h 0 hp
  subst e
  obtain ⟨b, off, x⟩ := ad
  have hx : x = none := by
    cases x with
    | none => rfl
    | some y =>
      simp [World.cell?, Addr.add] at hc
      split at hc <;> cases hc
  subst hx
  refine .inr ⟨b, off, cap, rfl, World.block_lt_of_cell? W _ hc, fun j hj => ?_⟩
  obtain ⟨ad', v', e', hc', hK'⟩ := elem_at (d := Kd.int .i64) rfl h j hj
  injection e' with e'
  subst e'
  have : v' = .int .i64 l[j] := by simpa [Kd.int, Kd.scalar] using hK'
  rw [this] at hc'
  have e2 : (⟨b, off, none⟩ : Addr).add j = ⟨b, off + j, none⟩ := by
    unfold Addr.add
    split
    · rename_i h0; simp [h0]
    · rfl
  rw [e2] at hc'
  simpa [List.getElem?_eq_getElem hj] using hc'
theorem isGroup_calls (n : Nat) (hn : n ≤ 7) (A : Option Addr) (c : Nat) (g : List Int) (W : World) (hC : Kd.C (Kd.int .i64) W A g.length g) (hc : g.length ≤ c) :
    Calls Try.prog 145 #[.int .i64 (n : Int), .slice A g.length c] W fun e w' => e = .returned (.bool (decide (isGroupN n g))) ∧ ∃ q, w' = W.drewN q := by
  exact (impl_isGroup.calls (g.length + 1) (n : Int) A c g _ W hC hc (isGroup_is n g _ (by omega) hC.2.1 (by omega))).mono fun e w' ⟨he, hd⟩ => ⟨he, hd.out⟩
set_option maxHeartbeats 2000000 in
theorem isOrder_calls (n : Nat) (h1 : 1 ≤ n) (hn : n ≤ 7) (A : Option Addr) (cap : Nat) (l : List Int) (W : World) (hC : Kd.C (Kd.int .i64) W A l.length l) (hc : l.length ≤ cap) :
    Calls Try.prog 91 #[.int .i64 (n : Int), .slice A l.length cap] W fun e w' => e = .returned (.bool (decide (l.length = n ∧ isGroupN n (ascL l)))) ∧ Below W.heap.size W w' := by
  by_cases hl : l.length = n
  · subst hl
    have HV := callsIn_wide.1 (values_in Fence.wide 1 trivial rfl A l.length cap W)
    have HS := fun W1 (hW1 : W1 = W.alloc (.cells #[.slice A l.length cap] 22)) => sorted_of W.heap.size (.slice A l.length cap) l (by omega) (by omega) W1 (by rw [hW1]; simp) (by rw [hW1]; exact (blk_cell (blk_new W _) 0).trans rfl) (ints_of (by rw [hW1]; exact Kd.C_alloc hC _) (by omega))
    have HG := fun W A c h1 h2 => isGroup_calls l.length hn A c (ascL l) W h1 h2
    rw [decide_eq_decide.2 (show (l.length = l.length ∧ isGroupN l.length (ascL l)) ↔ isGroupN l.length (ascL l) from ⟨fun h => h.2, fun h => ⟨rfl, h⟩⟩)]
    go_enter Try.func91, Try.ntmps91
    go_wp2_with (first | (go_at_call 147; refine HV.mono ?_; rintro e w1 ⟨rfl, rfl⟩) | (go_at_call 146; refine (HS _ rfl).mono ?_; rintro e w2 ⟨v2, rfl, hr, hb⟩; obtain ⟨A2, c2, rfl⟩ := R_slice hr; have HR := Aside0.mk (R_reads' hr); have HB := Aside0.mk (below_then (B := W.heap.size) (below_alloc (Below.refl _ _) _) (by simp) hb); clear hr hb) | (go_at_call 145; refine (HG _ A2 c2 HR.out.2.2 HR.out.2.1).mono ?_; rintro e w3 ⟨rfl, q, rfl⟩))
    go_ret
    exact ⟨rfl, pw_below_drewN HB.out q⟩
  · rw [decide_eq_false (fun h => hl h.1)]
    have hne : ¬ (l.length : Int) = (n : Int) := by omega
    have hnd : decide ((l.length : Int) = (n : Int)) = false := decide_eq_false hne
    go_enter Try.func91, Try.ntmps91
    go_wp2_with (fail)
    go_ret
    exact ⟨rfl, Below.refl _ _⟩
/-! ### what an order is. No program in sight. -/
theorem asc_perm (l : List Int) : (ascL l).Perm l := List.mergeSort_perm _ _
theorem asc_mem {l : List Int} {x : Int} : x ∈ ascL l ↔ x ∈ l := (asc_perm l).mem_iff
theorem asc_sorted (l : List Int) : (ascL l).Pairwise (· ≤ ·) := by
  have h := List.pairwise_mergeSort (le := fun x y : Int => decide (x ≤ y)) (fun a b c h1 h2 => by simp only [decide_eq_true_eq] at *; omega) (fun a b => by simp only [Bool.or_eq_true, decide_eq_true_eq]; omega) l
  exact h.imp (fun h => of_decide_eq_true h)
/-- Each of the first holders is there. -/
def AllIn (n : Nat) (l : List Int) : Prop := ∀ j : Nat, j < n → (j : Int) ∈ l
theorem pigeon : ∀ (n : Nat) (l : List Int), AllIn n l → n ≤ l.length
  | 0, _, _ => Nat.zero_le _
  | n + 1, l, h => by
    have h1 := pigeon n (l.erase (n : Int)) (fun j hj => (List.mem_erase_of_ne (by omega)).2 (h j (by omega)))
    have h2 := h n (by omega)
    have h3 := List.length_erase_of_mem h2
    have h4 := List.length_pos_of_mem h2
    omega
theorem all_in {n : Nat} {l : List Int} (hl : l.length = n) (h : AllIn n l) : ∀ x ∈ l, 0 ≤ x ∧ x < (n : Int) := by
  intro x hx
  by_cases hc : 0 ≤ x ∧ x < (n : Int)
  · exact hc
  · exfalso
    have h1 := pigeon n (l.erase x) (fun j hj => (List.mem_erase_of_ne (by omega)).2 (h j hj))
    have h3 := List.length_erase_of_mem hx
    have h4 := List.length_pos_of_mem hx
    omega
theorem all_nodup {n : Nat} {l : List Int} (hl : l.length = n) (h : AllIn n l) : l.Nodup := by
  rw [List.nodup_iff_count]
  intro a
  rcases Nat.lt_or_ge 1 (l.count a) with hc | hc
  · exfalso
    have ha : a ∈ l := List.count_pos_iff.1 (by omega)
    have ha2 : a ∈ l.erase a := List.count_pos_iff.1 (by rw [List.count_erase_self]; omega)
    have h1 := pigeon n (l.erase a) (fun j hj => by
      by_cases e : (j : Int) = a
      · rw [e]; exact ha2
      · exact (List.mem_erase_of_ne e).2 (h j hj))
    have h3 := List.length_erase_of_mem ha
    have h4 := List.length_pos_of_mem ha
    omega
  · exact hc
theorem rise (g : List Int) (h : g.Pairwise (· < ·)) : ∀ (d i : Nat) (hi : i + d < g.length), g[i]'(by omega) + (d : Int) ≤ g[i + d]
  | 0, i, hi => by simp
  | d + 1, i, hi => by
    have h1 := rise g h d i (by omega)
    have h2 := List.pairwise_iff_getElem.1 h (i + d) (i + (d + 1)) (by omega) hi (by omega)
    omega
theorem group_all {n : Nat} {g : List Int} (hl : g.length = n) (h : isGroupN n g) : AllIn n g := by
  intro j hj
  have h0 := (h.1 _ (List.getElem_mem (show 0 < g.length by omega))).1
  have h1 := (h.1 _ (List.getElem_mem (show n - 1 < g.length by omega))).2
  have h2 := rise g h.2 j 0 (by omega)
  have h3 := rise g h.2 (n - 1 - j) j (by omega)
  have e1 : g[0 + j]'(by omega) = g[j]'(by omega) := by congr 1; omega
  have e2 : g[j + (n - 1 - j)]'(by omega) = g[n - 1]'(by omega) := by congr 1; omega
  rw [e1] at h2
  rw [e2] at h3
  have e3 : g[j]'(by omega) = (j : Int) := by omega
  rw [← e3]
  exact List.getElem_mem _
theorem order_iff {n : Nat} {l : List Int} (hl : l.length = n) : isGroupN n (ascL l) ↔ AllIn n l := by
  constructor
  · intro h j hj
    exact asc_mem.1 (group_all (by rw [ascL_len, hl]) h j hj)
  · intro h
    refine ⟨fun x hx => all_in hl h x (asc_mem.1 hx), ?_⟩
    have hnd : (ascL l).Nodup := (asc_perm l).nodup_iff.2 (all_nodup hl h)
    exact ((asc_sorted l).and hnd).imp (fun h => by have h1 := h.1; have h2 := h.2; omega)
instance (n : Nat) (l : List Int) : Decidable (AllIn n l) := by unfold AllIn; exact Nat.decidableBallLT _ _
/-- An order of so many holders. -/
def OrdOk (n : Nat) (l : List Int) : Prop := l.length = n ∧ AllIn n l
instance (n : Nat) (l : List Int) : Decidable (OrdOk n l) := by unfold OrdOk; exact inferInstance
def impl_isOrder.f (a0 : Int) (l1 : List Int) : Option Bool := if 1 ≤ a0 ∧ a0 ≤ 7 then some (decide (OrdOk a0.toNat l1)) else none
theorem impl_isOrder.calls (a0 : Int) (A1 : Option Addr) (c1 : Nat) (l1 : List Int) (r : Bool) (w : World) (hr1 : Kd.C (Kd.int .i64) w A1 l1.length l1) (hc1 : l1.length ≤ c1) (h : impl_isOrder.f a0 l1 = some r) :
    Calls Try.prog 91 #[.int .i64 a0, .slice A1 l1.length c1] w fun e w' => e = .returned (.bool r) ∧ Below w.heap.size w w' := by
  unfold impl_isOrder.f at h
  split at h
  · rename_i hc
    injection h with h
    subst h
    obtain ⟨n, rfl⟩ : ∃ n : Nat, a0 = (n : Int) := ⟨a0.toNat, by omega⟩
    rw [Int.toNat_natCast]
    have e : decide (OrdOk n l1) = decide (l1.length = n ∧ isGroupN n (ascL l1)) := decide_eq_decide.2 ⟨fun h => ⟨h.1, (order_iff h.1).2 h.2⟩, fun h => ⟨h.1, (order_iff h.1).1 h.2⟩⟩
    rw [e]
    exact isOrder_calls n (by omega) (by omega) A1 c1 l1 w hr1 hc1
  · cases h
end Go.Proofs.Ytdahdeohmbadhaa.TOrd
