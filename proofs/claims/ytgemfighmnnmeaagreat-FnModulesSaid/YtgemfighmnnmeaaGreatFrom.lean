/- Contract of the reference's l01Sorted: a row of the call's own ends in lexicographic order. Contract of the reference's l01From: the family of a table in which more holders never open less. -/
import Derived.Test.YtgemfighmnnmeaaGreatCrowds
import Derived.Deep.QuietTactic
import Derived.BigQuiet
import Derived.Outline
import Derived.Test.YtgemfighmnnmeaaGreatBits
namespace Go.Proofs.YtgemfighmnnmeaaGreat.Sorted
open Go.RowKit Go.Lib Go.Sort Go.Proofs Go.Proofs.YtgemfighmnnmeaaGreatW.PrintWords Go.Proofs.YtgemfighmnnmeaaGreatW.PrintWords.Kd Go.Proofs.YtgemfighmnnmeaaGreatW.PrintLast Go.Proofs.YtgemfighmnnmeaaGreatW.PrintMore Go.Proofs.YtgemfighmnnmeaaGreat.G Go.Proofs.YtgemfighmnnmeaaGreat.Fam Go.Proofs.YtgemfighmnnmeaaGreat.Loops Go.Proofs.YtgemfighmnnmeaaGreat.Bits Go.Proofs.YtgemfighmnnmeaaGreat.Sorting
set_option linter.unusedVariables false
set_option linter.unusedSimpArgs false

theorem before_loop (a b : List Int) (ha : a.length ≤ 9223372036854775807) : ∀ (d n : Nat), n ≤ a.length → n ≤ b.length → a.length - n = d →
  Ev (fun k => spec_l01Before.l0 k a b (n : Int)) (decide (cmpL (a.drop n) (b.drop n) < 0)) := by
 intro d
 induction d with
 | zero =>
  intro n hn hnb hd
  obtain rfl : n = a.length := by omega
  refine Ev.step (f := fun k => spec_l01Before.j1 k a b (a.length : Int) false) (fun k => by simp only [spec_l01Before.l0]; rw [if_neg (by omega)]) ?_
  refine Ev.step (f := fun _ => some (decide ((a.length : Int) < (b.length : Int)))) (fun k => by simp only [spec_l01Before.j1]; rw [if_neg (by simp)]) ?_
  rw [List.drop_length]
  rw [show decide (cmpL [] (b.drop a.length) < 0) = decide ((a.length : Int) < (b.length : Int)) from decide_eq_decide.2 (by
   by_cases h : a.length < b.length
   ·
    rw [List.drop_eq_getElem_cons h]; simp [cmpL]; omega
   ·
    rw [List.drop_eq_nil_of_le (by omega)]; simp [cmpL]; omega)]
  exact Ev.now _
 | succ d ih =>
  intro n hn hnb hd
  have hlt : n < a.length := by omega
  refine Ev.step (f := fun k => spec_l01Before.j1 k a b (n : Int) (decide ((n : Int) < (b.length : Int)))) (fun k => by simp only [spec_l01Before.l0]; rw [if_pos (by omega)]) ?_
  by_cases h : n < b.length
  ·
   rw [decide_eq_true (show (n : Int) < (b.length : Int) by omega)]
   refine Ev.step (f := fun k => if a[n] = b[n] then spec_l01Before.l0 k a b ((n + 1 : Nat) : Int) else some (decide (a[n] < b[n]))) (fun k => by
    simp only [spec_l01Before.j1]
    rw [if_pos trivial, if_pos (by omega), if_pos (by omega), if_pos (by omega), rd_nat, rd_nat, getD_of hlt, getD_of h, wrap_id (by omega) (by omega)]
    rfl) ?_
   rw [List.drop_eq_getElem_cons hlt, List.drop_eq_getElem_cons h]
   by_cases e : a[n] = b[n]
   ·
    have hc : cmpL (a[n] :: a.drop (n + 1)) (b[n] :: b.drop (n + 1)) = cmpL (a.drop (n + 1)) (b.drop (n + 1)) := by
     simp only [cmpL]; rw [if_neg (by omega), if_neg (by omega)]
    rw [hc]
    exact (ih (n + 1) (by omega) (by omega) (by omega)).congr (fun k => by simp only [if_pos e])
   ·
    have hc : (cmpL (a[n] :: a.drop (n + 1)) (b[n] :: b.drop (n + 1)) < 0) ↔ (a[n] < b[n]) := by
     simp only [cmpL]
     by_cases h1 : a[n] < b[n]
     ·
      rw [if_pos h1]; simp [h1]
     ·
      rw [if_neg h1, if_pos (by omega)]; simp [h1]
    have hc' : decide (cmpL (a[n] :: a.drop (n + 1)) (b[n] :: b.drop (n + 1)) < 0) = decide (a[n] < b[n]) := decide_eq_decide.2 hc
    rw [hc']
    exact ⟨0, fun k _ => by simp only [if_neg e]⟩
  ·
   rw [decide_eq_false (show ¬ (n : Int) < (b.length : Int) by omega)]
   refine Ev.step (f := fun _ => some (decide ((a.length : Int) < (b.length : Int)))) (fun k => by simp only [spec_l01Before.j1]; rw [if_neg (by simp)]) ?_
   rw [List.drop_eq_nil_of_le (show b.length ≤ n by omega), List.drop_eq_getElem_cons hlt]
   rw [show decide (cmpL (a[n] :: a.drop (n + 1)) [] < 0) = decide ((a.length : Int) < (b.length : Int)) from decide_eq_decide.2 (by simp [cmpL]; omega)]
   exact Ev.now _
theorem before_is (a b : List Int) (ha : a.length ≤ 9223372036854775807) : Ev (fun k => spec_l01Before.f k a b) (decide (cmpL a b < 0)) := by
 have := before_loop a b ha a.length 0 (by omega) (by omega) rfl
 rw [List.drop_zero, List.drop_zero] at this
 exact this
theorem before_calls (A A' : Option Addr) (c c' : Nat) (a b : List Int) (W : World) (ha : Kd.C (Kd.int .i64) W A a.length a) (hac : a.length ≤ c) (hb : Kd.C (Kd.int .i64) W A' b.length b) (hbc : b.length ≤ c') :
  Calls Tryz.prog 72 #[.slice A a.length c, .slice A' b.length c'] W fun e w' => e = .returned (.bool (decide (cmpL a b < 0))) ∧ ∃ q, w' = W.drewN q := by
 obtain ⟨k, hk⟩ := (before_is a b ha.2.1).rounds
 exact (spec_l01Before.calls k A c a A' c' b _ W ha hac hb hbc hk).mono fun e w' ⟨he, hd⟩ => ⟨he, hd.out⟩

/-! ### a list in which two neighbours are exchanged -/
/-- What holds in the midst of an insertion: ahead of i all is in order but at place k; what stands behind k is greater than it. -/
def Mid (l : List (List Int)) (i k : Nat) : Prop := k ≤ i ∧ i < l.length ∧ (∀ a b, a < b → b ≤ i → a ≠ k → b ≠ k → leL (l.getD a []) (l.getD b []) = true) ∧ (∀ b, k < b → b ≤ i → leL (l.getD k []) (l.getD b []) = true)
def Upto (l : List (List Int)) (i : Nat) : Prop := ∀ a b, a < b → b < i → leL (l.getD a []) (l.getD b []) = true
theorem Upto.mid {l : List (List Int)} {i : Nat} (h : Upto l i) (hi : i < l.length) : Mid l i i := ⟨Nat.le_refl _, hi, fun a b hab hb _ hbk => h a b hab (by omega), fun b h1 h2 => by omega⟩
theorem Mid.done0 {l : List (List Int)} {i : Nat} (h : Mid l i 0) : Upto l (i + 1) := fun a b hab hb => by
 by_cases e : a = 0
 ·
  subst e; exact h.2.2.2 b (by omega) (by omega)
 ·
  exact h.2.2.1 a b hab (by omega) e (by omega)
theorem Mid.done {l : List (List Int)} {i k : Nat} (h : Mid l i k) (hk : 0 < k) (hle : leL (l.getD (k - 1) []) (l.getD k []) = true) : Upto l (i + 1) := fun a b hab hb => by
 by_cases e : a = k
 ·
  subst e; exact h.2.2.2 b hab (by omega)
 ·
  by_cases e2 : b = k
  ·
   subst e2
   by_cases e3 : a = b - 1
   ·
    subst e3; exact hle
   ·
    exact leL_trans _ _ _ (h.2.2.1 a (b - 1) (by omega) (by have := h.1; omega) e (by omega)) hle
  ·
   exact h.2.2.1 a b hab (by omega) e e2
/-- Places k and k - 1 exchanged. -/
def swapL {α : Type} (l : List α) (d : α) (k : Nat) : List α := (l.set k (l.getD (k - 1) d)).set (k - 1) (l.getD k d)
theorem swapL_length {α : Type} (l : List α) (d : α) (k : Nat) : (swapL l d k).length = l.length := by simp [swapL]
theorem swapL_getD {α : Type} {l : List α} {d : α} {k : Nat} (hk : 0 < k) (hl : k < l.length) (j : Nat) : (swapL l d k).getD j d = if j = k - 1 then l.getD k d else if j = k then l.getD (k - 1) d else l.getD j d := by
 unfold swapL
 simp only [List.getD_eq_getElem?_getD]
 rw [List.getElem?_set, List.getElem?_set]
 by_cases h1 : j = k - 1
 ·
  subst h1; rw [if_pos rfl, if_pos (by simp; omega), if_pos rfl]; simp [List.getElem?_eq_getElem hl]
 ·
  rw [if_neg (by omega), if_neg h1]
  by_cases h2 : j = k
  ·
   subst h2; rw [if_pos rfl, if_pos (by omega), if_pos rfl]; simp
  ·
   rw [if_neg (by omega), if_neg h2]
theorem swapL_perm {α : Type} {l : List α} {d : α} {k : Nat} (hk : 0 < k) (hl : k < l.length) : (swapL l d k).Perm l := by
 unfold swapL
 have h1 : l.getD (k - 1) d = l[k - 1] := by simp [List.getD, List.getElem?_eq_getElem (show k - 1 < l.length by omega)]
 have h2 : l.getD k d = l[k] := by simp [List.getD, List.getElem?_eq_getElem hl]
 rw [h1, h2]
 have hsplit : l = l.take (k - 1) ++ l[k - 1] :: l[k] :: l.drop (k + 1) := by
  rw [show l.take (k - 1) ++ l[k - 1] :: l[k] :: l.drop (k + 1) = l.take (k - 1) ++ l.drop (k - 1) from by
   rw [List.drop_eq_getElem_cons (show k - 1 < l.length by omega)]
   congr 2
   rw [show k - 1 + 1 = k by omega, List.drop_eq_getElem_cons hl]]
  rw [List.take_append_drop]
 have hset : (l.set k l[k - 1]).set (k - 1) l[k] = l.take (k - 1) ++ l[k] :: l[k - 1] :: l.drop (k + 1) := by
  apply List.ext_getElem?
  intro j
  rw [List.getElem?_set, List.getElem?_set, List.getElem?_append]
  have htl : (l.take (k - 1)).length = k - 1 := by rw [List.length_take]; omega
  rw [htl]
  by_cases h3 : j < k - 1
  ·
   rw [if_neg (by omega), if_neg (by omega), if_pos h3, List.getElem?_take_of_lt h3]
  ·
   rw [if_neg h3]
   by_cases h4 : j = k - 1
   ·
    subst h4; rw [if_pos rfl, if_pos (by simp; omega)]; simp
   ·
    rw [if_neg (by omega)]
    by_cases h5 : j = k
    ·
     subst h5; rw [if_pos rfl, if_pos (by omega), show j - (j - 1) = 1 by omega]; rfl
    ·
     rw [if_neg (by omega)]
     obtain ⟨m, rfl⟩ : ∃ m, j = k + 1 + m := ⟨j - (k + 1), by omega⟩
     rw [show k + 1 + m - (k - 1) = m + 2 by omega]
     simp [List.getElem?_drop]
 rw [hset]
 conv => rhs; rw [hsplit]
 exact (List.Perm.swap _ _ _).append_left _
theorem Mid.swap {l : List (List Int)} {i k : Nat} (h : Mid l i k) (hk : 0 < k) (hlt : cmpL (l.getD k []) (l.getD (k - 1) []) < 0) : Mid (swapL l [] k) i (k - 1) := by
 have hkl : k < l.length := Nat.lt_of_le_of_lt h.1 h.2.1
 have hle : leL (l.getD k []) (l.getD (k - 1) []) = true := by
  unfold leL
  have := cmpL_neg (l.getD k []) (l.getD (k - 1) [])
  rw [Bool.not_eq_true', decide_eq_false_iff_not]
  omega
 refine ⟨by have := h.1; omega, by rw [swapL_length]; exact h.2.1, fun a b hab hb hak hbk => ?_, fun b h1 h2 => ?_⟩
 ·
  rw [swapL_getD hk hkl, swapL_getD hk hkl, if_neg hak, if_neg hbk]
  by_cases e : a = k
  ·
   rw [if_pos e, if_neg (by omega)]
   exact h.2.2.1 (k - 1) b (by omega) hb (by omega) (by omega)
  ·
   rw [if_neg e]
   by_cases e2 : b = k
   ·
    rw [if_pos e2]
    exact h.2.2.1 a (k - 1) (by omega) (by have := h.1; omega) e (by omega)
   ·
    rw [if_neg e2]; exact h.2.2.1 a b hab hb e e2
 ·
  rw [swapL_getD hk hkl, swapL_getD hk hkl, if_pos rfl, if_neg (by omega)]
  by_cases e2 : b = k
  ·
   rw [if_pos e2]; exact hle
  ·
   rw [if_neg e2]; exact h.2.2.2 b (by omega) h2
theorem Upto.sorted {l m : List (List Int)} (h : Upto l l.length) (hp : l.Perm m) : l = m.mergeSort leL := by
 refine sorted_unique (hp.trans (sort_perm m).symm) ?_ (sort_sorted m)
 rw [List.pairwise_iff_getElem]
 intro i j hi hj hij
 have := h i j hij hj
 simpa [List.getD, List.getElem?_eq_getElem hi, List.getElem?_eq_getElem hj] using this

/-! ### the row in memory, its elements by their numbers -/
section
variable {n : Nat} (enc : Fin n → Value) (w : World) (g cap : Nat)
structure RowIs (dk : List (Fin n)) (wr : World) : Prop where
 perm : dk.Perm (List.finRange n)
 grown : w.grownBy wr (some g)
 cells : ∃ cur : Array Value, wr.heap[g]? = some (.cells cur 27 (0, 0)) ∧ cur.size = cap ∧ cur.toList.take n = dk.map enc
variable {enc w g cap}
theorem RowIs.len {dk : List (Fin n)} {wr : World} (h : RowIs enc w g cap dk wr) : dk.length = n := by rw [h.perm.length_eq]; simp
theorem RowIs.drewN {dk : List (Fin n)} {wr : World} (h : RowIs enc w g cap dk wr) (q : Nat) : RowIs enc w g cap dk (wr.drewN q) := by
 refine ⟨h.perm, ?_, ?_⟩
 ·
  obtain ⟨h1, h2, h3, h4, h5⟩ := h.grown
  exact ⟨h1.trans (by simp), h2.trans (by simp), h3.trans (by simp), by simpa using h4, fun k hk hne => by simpa using h5 k hk hne⟩
 ·
  obtain ⟨cur, hc⟩ := h.cells
  exact ⟨cur, by simpa using hc⟩
theorem RowIs.cell {dk : List (Fin n)} {wr : World} (h : RowIs enc w g cap dk wr) (i0 : Fin n) {j : Nat} (hj : j < n) : wr.cell? ⟨g, j, none⟩ = some (enc (dk.getD j i0)) := by
 obtain ⟨cur, hb, _, ht⟩ := h.cells
 have hjd : j < dk.length := by rw [h.len]; exact hj
 have h1 : (cur.toList.take n)[j]? = (dk.map enc)[j]? := by rw [ht]
 rw [List.getElem?_take_of_lt hj] at h1
 simp only [World.cell?, hb, Option.isSome_none, Bool.false_eq_true, if_false]
 rw [← Array.getElem?_toList, h1]
 simp [List.getD, hjd]
theorem RowIs.frozen {dk : List (Fin n)} {wr : World} (h : RowIs enc w g cap dk wr) (j : Nat) : wr.frozen? ⟨g, j, none⟩ = false := by
 obtain ⟨cur, hb, _⟩ := h.cells
 simp [World.frozen?, hb]
theorem RowIs.swap {dk : List (Fin n)} {wr : World} (h : RowIs enc w g cap dk wr) (hn : n ≤ cap) (i0 : Fin n) {k : Nat} (hk : 0 < k) (hkn : k < n) :
  RowIs enc w g cap (swapL dk i0 k) ((wr.setCell ⟨g, k, none⟩ (enc (dk.getD (k - 1) i0))).setCell ⟨g, k - 1, none⟩ (enc (dk.getD k i0))) := by
 have hlen := h.len
 obtain ⟨hp, hg, cur, hb, hs, ht⟩ := h
 refine ⟨(swapL_perm hk (by rw [hlen]; exact hkn)).trans hp, ?_, (cur.setIfInBounds k (enc (dk.getD (k - 1) i0))).setIfInBounds (k - 1) (enc (dk.getD k i0)), ?_, ?_, ?_⟩
 ·
  obtain ⟨h1, h2, h3, h4, h5⟩ := hg
  refine ⟨h1.trans rfl, h2.trans rfl, h3.trans rfl, by simpa [World.setCell] using h4, fun j hj hne => ?_⟩
  have hne' : g ≠ j := fun e => hne (by rw [e])
  rw [← h5 j hj hne]
  simp [World.setCell, Array.getElem?_modify, hne']
 ·
  simp [World.setCell, Array.getElem?_modify, hb]
 ·
  simpa using hs
 ·
  apply List.ext_getElem?
  intro j
  by_cases hj : j < n
  ·
   have h1 : (cur.toList.take n)[j]? = (dk.map enc)[j]? := by rw [ht]
   rw [List.getElem?_take_of_lt hj] at h1 ⊢
   have hjd : j < dk.length := by rw [hlen]; exact hj
   have hjc : j < cur.size := by omega
   have hsw := swapL_getD (d := i0) hk (show k < dk.length by rw [hlen]; exact hkn) j
   rw [List.getElem?_map, List.getElem?_eq_getElem (show j < (swapL dk i0 k).length by rw [swapL_length]; exact hjd)]
   have hsg : (swapL dk i0 k)[j]'(by rw [swapL_length]; exact hjd) = (swapL dk i0 k).getD j i0 := by simp [List.getD, List.getElem?_eq_getElem (show j < (swapL dk i0 k).length by rw [swapL_length]; exact hjd)]
   rw [hsg, hsw, Array.getElem?_toList, Array.getElem?_setIfInBounds, Array.getElem?_setIfInBounds]
   rw [Array.getElem?_toList] at h1
   by_cases e1 : j = k - 1
   ·
    subst e1; rw [if_pos rfl, if_pos (by simp; omega), if_pos rfl]; rfl
   ·
    rw [if_neg (by omega), if_neg e1]
    by_cases e2 : j = k
    ·
     subst e2; rw [if_pos rfl, if_pos (by omega), if_pos rfl]; rfl
    ·
     rw [if_neg (by omega), if_neg e2, h1]; simp [List.getD, hjd]
  ·
   rw [List.getElem?_take_eq_none (by omega), List.getElem?_eq_none (by simp [swapL_length, hlen]; omega)]
end

theorem map_swapL {α β : Type} (f : α → β) (l : List α) (d : α) (d' : β) {k : Nat} (hk : 0 < k) (hl : k < l.length) : (swapL l d k).map f = swapL (l.map f) d' k := by
 unfold swapL
 rw [List.map_set, List.map_set]
 simp [List.getD, hl, show k - 1 < l.length by omega]
theorem getD_map {α : Type} (f : α → List Int) (l : List α) (d : α) {k : Nat} (hl : k < l.length) : (l.map f).getD k [] = f (l.getD k d) := by
 simp [List.getD, hl]

set_option maxHeartbeats 2000000 in
theorem sorted_walk (n : Nat) (hpos : 0 < n) (hlen : n < 4611686018427387904) (ls : Fin n → List Int) (enc : Fin n → Value) (g cap : Nat) (hcap : n ≤ cap) (w : World) (h0 : RowIs enc w g cap (List.finRange n) w)
  (hC : ∀ wr, w.grownBy wr (some g) → ∀ i, ∃ A c, enc i = .slice A (ls i).length c ∧ Kd.C (Kd.int .i64) wr A (ls i).length (ls i) ∧ (ls i).length ≤ c) :
  Calls Tryz.prog 69 #[.slice (some ⟨g, 0, none⟩) n cap] w fun e w' => e = .returned (.slice (some ⟨g, 0, none⟩) n cap) ∧ ∃ dk, RowIs enc w g cap dk w' ∧ Upto (dk.map ls) n := by
 have H0 := Aside0.mk h0
 have HC := Aside0.mk hC
 clear h0 hC
 let i0 : Fin n := ⟨0, hpos⟩
 go_enter Tryz.func69, Tryz.ntmps69
 go_wp2_with (fail)
 go_loopg [3] n (fun gg v3 wr => ∃ i : Nat, v3 = .int .i64 (i : Int) ∧ 1 ≤ i ∧ i ≤ n ∧ n - i ≤ gg ∧ Aside0 (∃ dk, RowIs enc w g cap dk wr ∧ Upto (dk.map ls) i))
 case atStart => exact ⟨1, by go_num, Nat.le_refl _, hpos, by omega, ⟨_, H0.out, fun a b h1 h2 => by omega⟩⟩
 case round =>
  obtain ⟨i, rfl, hi1, hin, hgg, HR⟩ := hrel
  by_cases hlt : i < n
  ·
   have hlti : (i : Int) < (n : Int) := by omega
   go_wp2_with (fail)
   go_loopg [4] i (fun g2 v4 w2 => ∃ k : Nat, v4 = .int .i64 (k : Int) ∧ k ≤ i ∧ k ≤ g2 ∧ Aside0 (∃ dk, RowIs enc w g cap dk w2 ∧ Mid (dk.map ls) i k))
   case atStart =>
    obtain ⟨dk, hr, hu⟩ := HR.out
    exact ⟨i, rfl, Nat.le_refl _, Nat.le_refl _, ⟨dk, hr, hu.mid (by rw [List.length_map, hr.len]; exact hlt)⟩⟩
   case round =>
    obtain ⟨k, rfl, hki, hk2, HM⟩ := hrel
    by_cases hk : k = 0
    ·
     subst hk
     have hd : decide ((0 : Int) < ((0 : Nat) : Int)) = false := by decide
     go_wp2_with (fail)
     go_quiet (fail)
     go_wp2_with (fail)
     go_roundg (n - (i + 1))
     case measure => omega
     case rel =>
      obtain ⟨dk, hr, hm⟩ := HM.out
      exact ⟨i + 1, by go_num, by omega, by omega, by omega, ⟨dk, hr.drewN _, hm.done0⟩⟩
    ·
     obtain ⟨dk, hr, hm⟩ := HM.out
     clear HM
     obtain ⟨j, rfl⟩ : ∃ j, k = j + 1 := ⟨k - 1, by omega⟩
     clear hk
     have hkn0 : j + 1 < n := by omega
     have hc1 := hr.cell i0 hkn0
     have hc2 := hr.cell i0 (show j < n by omega)
     have hf1 := hr.frozen (j + 1)
     have hf2 := hr.frozen j
     obtain ⟨A, c, e1, ca, la⟩ := HC.out wr hr.grown (dk.getD (j + 1) i0)
     obtain ⟨A', c', e2, cb, lb⟩ := HC.out wr hr.grown (dk.getD j i0)
     have hcall := fun q => before_calls A A' c c' (ls (dk.getD (j + 1) i0)) (ls (dk.getD j i0)) (wr.drewN q) (C_drewN ca q) la (C_drewN cb q) lb
     have hx : (dk.map ls).getD (j + 1) [] = ls (dk.getD (j + 1) i0) := getD_map ls dk i0 (by rw [hr.len]; exact hkn0)
     have hy : (dk.map ls).getD j [] = ls (dk.getD j i0) := getD_map ls dk i0 (by rw [hr.len]; omega)
     have hsw := fun q => (hr.drewN q).swap hcap i0 (k := j + 1) (by omega) hkn0
     rw [show j + 1 - 1 = j from rfl, e1, e2] at hsw
     rw [e1] at hc1
     rw [e2] at hc2
     have HM := Aside0.mk hm
     have HR' := Aside0.mk hr
     have HSW := Aside0.mk hsw
     have HX := Aside0.mk hx
     have HY := Aside0.mk hy
     clear hm hr hsw hx hy e1 e2 ca cb la lb
     generalize ls (dk.getD (j + 1) i0) = x at *
     generalize ls (dk.getD j i0) = y at *
     generalize x.length = lx at *
     generalize y.length = ly at *
     have hcv : ((j + 1 : Nat) : Int) = (j : Int) + 1 := by omega
     rw [hcv]
     have hb1 : (j : Int) + 1 < (n : Int) := by omega
     have hb2 : (j : Int) < (n : Int) := by omega
     have hb3 : (0 : Int) < (j : Int) + 1 := by omega
     have hb4 : (0 : Int) ≤ (j : Int) + 1 := by omega
     have hb5 : (0 : Int) ≤ (j : Int) := by omega
     have hb6 : ((j : Int) + 1).toNat = j + 1 := by omega
     have hb7 : IntKind.i64.wrap (j : Int) = (j : Int) := IntWalk.i64_in _ (by omega)
     clear hcv
     cases hq : decide (cmpL x y < 0) with
     | false =>
      have HQ := Aside0.mk hq
      rw [hq] at hcall
      clear hq
      go_wp2_with (fail)
      go_quiet (first | (go_at_call 72; exact Calls.quiet_of (hcall _)))
      go_wp2_with (fail)
      go_roundg (n - (i + 1))
      case measure => omega
      case rel =>
       exact ⟨i + 1, by go_num, by omega, by omega, by omega, ⟨dk, HR'.out.drewN _, HM.out.done (by omega) (by have := HQ.out; rw [show j + 1 - 1 = j from rfl, HX.out, HY.out]; simpa [leL] using this)⟩⟩
     | true =>
      have HQ := Aside0.mk hq
      rw [hq] at hcall
      clear hq
      go_wp2_with (fail)
      go_quiet (first | (go_at_call 72; exact Calls.quiet_of (hcall _)))
      go_wp2_with (fail)
      go_roundg j
      case measure => omega
      case rel =>
       refine ⟨j, rfl, by omega, by omega, ⟨swapL dk i0 (j + 1), HSW.out _, ?_⟩⟩
       rw [map_swapL ls dk i0 [] (by omega) (by rw [HR'.out.len]; exact hkn0)]
       exact HM.out.swap (by omega) (by rw [show j + 1 - 1 = j from rfl, HX.out, HY.out]; exact of_decide_eq_true HQ.out)
  ·
   have hlti : ¬ (i : Int) < (n : Int) := by omega
   obtain rfl : i = n := by omega
   go_wp2_with (fail)
   go_ret
   exact ⟨rfl, HR.out⟩

set_option maxHeartbeats 2000000 in
theorem sorted_calls (base : Nat) (ok : Nat → Prop) (v : Value) (xs : List (List Int)) (w : World) (h : Kd.S dR 27 w base ok v xs) (hlen : xs.length < 4611686018427387904) :
  Calls Tryz.prog 69 #[v] w fun e w' => e = .returned v ∧ Kd.S dR 27 w' base ok v (xs.mergeSort leL) ∧ w.grownBy w' v.ownBlock := by
 by_cases hn : xs = []
 ·
  subst hn
  obtain ⟨A, c, rfl⟩ := S_slice h
  have h1 := Aside0.mk h
  clear h
  go_enter Tryz.func69, Tryz.ntmps69
  go_wp2_with (fail)
  go_loopg [3] 0 (fun gg v3 wr => v3 = .int .i64 1 ∧ wr = w)
  case atStart => exact ⟨rfl, rfl⟩
  case round =>
   obtain ⟨rfl, rfl⟩ := hrel
   have hd : decide ((1 : Int) < (([] : List (List Int)).length : Int)) = false := by decide
   go_wp2_with (fail)
   go_ret
   exact ⟨rfl, by simpa using h1.out, rfl, rfl, rfl, Nat.le_refl _, fun _ _ _ => rfl⟩
 have hpos : 0 < xs.length := by cases xs with | nil => exact absurd rfl hn | cons => simp
 obtain ⟨g, cap, cur, enc, f, rfl, hbase, hok, hcur, hlc, hcm, hcs, htake, hel⟩ := S_numbers h hpos
 refine (sorted_walk xs.length hpos hlen (fun i => xs[i]) enc g cap hlc w ⟨List.Perm.refl _, ⟨rfl, rfl, rfl, Nat.le_refl _, fun _ _ _ => rfl⟩, cur, hcur, hcs, htake⟩ (fun wr hg i => ?_)).mono ?_
 ·
  obtain ⟨A, c, e1, h1, c1⟩ := dR.K_of_M (M_grown (hel i) hg (fun k hk e => hk.1.2 (by injection e)))
  exact ⟨A, c, by simpa using e1, c1, h1⟩
 ·
  rintro e w' ⟨rfl, dk, hr, hu⟩
  obtain ⟨hp, hg, cur', hc', hs', ht'⟩ := hr
  have hS := S_renumber (cur := cur) hbase hok hlc hcm hel hg dk hp hc' hs' ht'
  have hdl : dk.length = xs.length := by rw [hp.length_eq]; simp
  have hlist : (List.finRange xs.length).map (fun i => xs[i]) = xs := by
   apply List.ext_getElem
   ·
    simp
   ·
    intro i h1 h2; simp
  have hp2 : (dk.map (fun i => xs[i])).Perm xs := by have := hp.map (fun i : Fin xs.length => xs[i]); rwa [hlist] at this
  have hu' : Upto (dk.map (fun i : Fin xs.length => xs[i])) (dk.map (fun i : Fin xs.length => xs[i])).length := by rw [List.length_map, hdl]; exact hu
  rw [hu'.sorted hp2] at hS
  exact ⟨rfl, hS, by simpa [Value.ownBlock] using hg⟩

end Go.Proofs.YtgemfighmnnmeaaGreat.Sorted

namespace Go.Proofs.YtgemfighmnnmeaaGreat.From
open Go.RowKit Go.Lib Go.Proofs Go.Proofs.YtgemfighmnnmeaaGreatW.PrintWords Go.Proofs.YtgemfighmnnmeaaGreatW.PrintWords.Kd Go.Proofs.YtgemfighmnnmeaaGreatW.PrintLast Go.Proofs.YtgemfighmnnmeaaGreatW.PrintMore Go.Proofs.YtgemfighmnnmeaaGreat.G Go.Proofs.YtgemfighmnnmeaaGreat.Fam Go.Proofs.YtgemfighmnnmeaaGreat.Loops Go.Proofs.YtgemfighmnnmeaaGreat.Bits Go.Proofs.YtgemfighmnnmeaaGreat.Sorting Go.Proofs.YtgemfighmnnmeaaGreat.Crowds Go.Proofs.YtgemfighmnnmeaaGreat.Sorted Go.Proofs.YtgemfighmnnmeaaGreat.Idx Go.Proofs.YtgemfighmnnmeaaGreat.FamLaw Go.Proofs.YtgemfighmnnmeaaGreat.Ops
set_option linter.unusedVariables false
set_option linter.unusedSimpArgs false

theorem of_all : ∀ c : Fin 128, spec_l01Of.f 9 ((c.val : Nat) : Int) = some (groupN c.val) := by decide +kernel
theorem of_calls (c : Nat) (hc : c < 128) (W : World) : Calls Tryz.prog 56 #[.int .i64 (c : Int)] W fun e w' => ∃ v, e = .returned v ∧ Kd.R (Kd.int .i64) 2 w' W.heap.size (fun _ => True) v (groupN c) ∧ Below W.heap.size W w' :=
 spec_l01Of.calls 9 (c : Int) _ W (of_all ⟨c, hc⟩)

/-- The table tells of c. -/
def tb (l : List Bool) (c : Nat) : Bool := l.getD c false

/-- A cell of the table. -/
theorem table_at {w : World} {A : Option Addr} {l : List Bool} (h : Kd.C Kd.bool w A l.length l) {i : Nat} (hi : i < l.length) : ∃ ad, A = some ad ∧ w.cell? (ad.add i) = some (.bool (tb l i)) := by
 obtain ⟨ad, v, e, hc, hK⟩ := elem_at (d := Kd.bool) rfl h i hi
 refine ⟨ad, e, ?_⟩
 have : v = .bool l[i] := by simpa [Kd.bool, Kd.scalar] using hK
 rw [hc, this]
 simp [tb, List.getD, hi]

/-- So far no holder below h that is in c can be left out. -/
def soFar (p : Nat → Bool) (c h : Nat) : Bool := p c && (List.range h).all fun i => !(c.testBit i && p (c ^^^ 1 <<< i))
theorem soFar_step (p : Nat → Bool) (c h : Nat) : soFar p c (h + 1) = (soFar p c h && !(c.testBit h && p (c ^^^ 1 <<< h))) := by
 unfold soFar
 rw [List.range_succ, List.all_append, ← Bool.and_assoc]
 simp
theorem soFar_zero (p : Nat → Bool) (c : Nat) : soFar p c 0 = p c := by simp [soFar]
theorem soFar_least (p : Nat → Bool) (c n : Nat) : soFar p c n = leastN n p c := rfl
theorem soFar_false (p : Nat → Bool) (c h n : Nat) (hn : h ≤ n) (h0 : soFar p c h = false) : leastN n p c = false := by
 induction n with
 | zero => rw [show h = 0 by omega] at h0; exact h0
 | succ m ih =>
  by_cases e : h = m + 1
  ·
   rw [← e]; exact h0
  ·
   rw [← soFar_least, soFar_step, soFar_least, ih (by omega)]; rfl

theorem bit_all : ∀ c : Fin 128, ∀ h : Fin 7, (Go.bits .and .i64 (((c.val : Nat) : Int) / 2 ^ h.val) 1) = if c.val.testBit h.val then 1 else 0 := by decide +kernel
theorem bit_is {c h : Nat} (hc : c < 128) (hh : h < 7) : Go.bits .and .i64 ((c : Int) / 2 ^ h) 1 = if c.testBit h then 1 else 0 := bit_all ⟨c, hc⟩ ⟨h, hh⟩
theorem drop_all : ∀ c : Fin 128, ∀ h : Fin 7, c.val.testBit h.val = true → Go.bits .andNot .i64 ((c.val : Nat) : Int) (wrap64 (2 ^ h.val)) = ((c.val ^^^ 1 <<< h.val : Nat) : Int) := by decide +kernel
theorem drop_is {c h : Nat} (hc : c < 128) (hh : h < 7) (ht : c.testBit h = true) : Go.bits .andNot .i64 (c : Int) (wrap64 (2 ^ h)) = ((c ^^^ 1 <<< h : Nat) : Int) := drop_all ⟨c, hc⟩ ⟨h, hh⟩ ht
theorem drop_below {n c h : Nat} (hn : n ≤ 7) (hc : c < 2 ^ n) (ht : c.testBit h = true) : c ^^^ 1 <<< h < 2 ^ n := drop_lt hc ht

set_option maxHeartbeats 2000000 in
theorem from_calls (n : Nat) (hn : n ≤ 7) (A : Option Addr) (cc : Nat) (l : List Bool) (w : World) (hl : l.length = 2 ^ n) (hb : Kd.C Kd.bool w A l.length l) (hcc : l.length ≤ cc) :
  Calls Tryz.prog 57 #[.int .i64 (n : Int), .slice A l.length cc] w fun e w' => ∃ v, e = .returned (.agg #[.int .i64 (n : Int), v]) ∧ Kd.S dR 27 w' w.heap.size (fun _ => True) v (famN n (tb l)) ∧ Below w.heap.size w w' := by
 have h7 : 2 ^ n ≤ 128 := by have := Nat.pow_le_pow_right (n := 2) (by omega) hn; simpa using this
 have HC := Aside0.mk hb
 clear hb
 have HLN := Aside0.mk (crowds_list n (leastN n (tb l)) hn)
 have HLL := Aside0.mk (crowds_len n (leastN n (tb l)) hn)
 unfold famN crowdsN
 generalize hM : 2 ^ n = M at *
 have HM := Aside0.mk hM
 clear hM
 generalize hL : l.length = L at *
 have HL := Aside0.mk hL
 clear hL
 subst hl
 go_enter Tryz.func57, Tryz.ntmps57
 go_wp2_with (fail)
 go_loopg [5, 6] L (fun gg v5 v6 wr => ∃ (c : Nat) (u : Value), c ≤ L ∧ L - c ≤ gg ∧ v6 = .int .i64 (c : Int) ∧ u = v5 ∧ Aside0 (Kd.S dR 27 wr (w.heap.size + 1) (fun _ => True) u (((List.range c).filter (leastN n (tb l))).map groupN)) ∧ Aside0 (Below (w.heap.size + 1) (w.alloc (.cells #[.int .i64 0, .slice none 0 0] 26)) wr))
 case atStart => exact ⟨0, _, Nat.zero_le _, by omega, rfl, rfl, ⟨by have := S_empty dR 27 (w.alloc (.cells #[.int .i64 0, .slice none 0 0] 26)) (w.heap.size + 1) (by simp); simpa using this⟩, ⟨(below_alloc (Below.refl _ _) _).mono (by simp)⟩⟩
 case round =>
  obtain ⟨c, u, hcL, hgg, rfl, rfl, HS, HB⟩ := hrel
  by_cases hlt : c < L
  ·
   have hltz : (c : Int) < (L : Int) := by omega
   have hc128 : c < 128 := by omega
   have hwB : Below w.heap.size w wr := below_then (below_alloc (Below.refl _ _) _) (by simp) (HB.out.mono (by simp))
   have hCr : Kd.C Kd.bool wr A l.length l := by rw [HL.out]; exact Kd.C_below HC.out hwB
   obtain ⟨ad, rfl, hc0⟩ := table_at hCr (by rw [HL.out]; exact hlt)
   have hsz : c < cc := by omega
   obtain ⟨W3, hW3⟩ : ∃ W3, W3 = wr := ⟨_, rfl⟩
   go_wp2_with (fail)
   go_loopg [7, 8] n (fun g2 v7 v8 w2 => ∃ (h : Nat) (b : Bool), h ≤ n ∧ n - h ≤ g2 ∧ v7 = .bool b ∧ v8 = .int .i64 (h : Int) ∧ Aside0 (b = soFar (tb l) c h) ∧ w2 = W3)
   case atStart => exact ⟨0, _, Nat.zero_le _, by omega, rfl, rfl, ⟨(soFar_zero _ _).symm⟩, hW3.symm⟩
   case round =>
    subst hW3
    obtain ⟨h, b, hhn, hg2, rfl, rfl, HBb, rfl⟩ := hrel
    by_cases hlt2 : h < n
    ·
     have hlt2z : (h : Int) < (n : Int) := by omega
     cases b with
     | false =>
      have HF := Aside0.mk (soFar_false (tb l) c h n hhn HBb.out.symm)
      go_wp2_with (fail)
      go_roundg (L - (c + 1))
      case measure => omega
      case rel =>
       refine ⟨c + 1, _, by omega, by omega, by go_num, rfl, ⟨?_⟩, HB⟩
       rw [filter_step, HF.out, if_neg (by simp), List.append_nil]
       exact HS.out
     | true =>
      have hbit := bit_is hc128 (show h < 7 by omega)
      cases ht : c.testBit h with
      | false =>
       rw [ht, if_neg (by simp)] at hbit
       have HT := Aside0.mk ht
       clear ht
       go_wp2_with (fail)
       go_roundg (n - (h + 1))
       case measure => omega
       case rel => exact ⟨h + 1, true, by omega, by omega, rfl, by go_num, ⟨by rw [soFar_step, ← HBb.out, HT.out]; rfl⟩, rfl⟩
      | true =>
       rw [ht, if_pos rfl] at hbit
       have hd := drop_is hc128 (show h < 7 by omega) ht
       have hdl := drop_below hn (show c < 2 ^ n by rw [HM.out]; exact hlt) ht
       rw [HM.out] at hdl
       have HT := Aside0.mk ht
       clear ht
       obtain ⟨ad', e', hc1⟩ := table_at hCr (show c ^^^ 1 <<< h < l.length by rw [HL.out]; exact hdl)
       obtain rfl : ad = ad' := by injection e'
       clear e'
       generalize hD : c ^^^ 1 <<< h = d at *
       have HD := Aside0.mk hD
       clear hD
       have hdz : (d : Int) < (L : Int) := by omega
       cases hq : tb l d with
       | false =>
        rw [hq] at hc1
        have HQ := Aside0.mk hq
        clear hq
        go_wp2_with (fail)
        go_roundg (n - (h + 1))
        case measure => omega
        case rel => exact ⟨h + 1, true, by omega, by omega, rfl, by go_num, ⟨by rw [soFar_step, ← HBb.out, HT.out, HD.out, HQ.out]; rfl⟩, rfl⟩
       | true =>
        rw [hq] at hc1
        have HQ := Aside0.mk hq
        clear hq
        go_wp2_with (fail)
        go_roundg (n - (h + 1))
        case measure => omega
        case rel => exact ⟨h + 1, false, by omega, by omega, rfl, by go_num, ⟨by rw [soFar_step, ← HBb.out, HT.out, HD.out, HQ.out]; rfl⟩, rfl⟩
    ·
     have hlt2z : ¬ (h : Int) < (n : Int) := by omega
     obtain rfl : h = n := by omega
     cases b with
     | false =>
      have HF := Aside0.mk (soFar_false (tb l) c h h hhn HBb.out.symm)
      go_wp2_with (fail)
      go_roundg (L - (c + 1))
      case measure => omega
      case rel =>
       refine ⟨c + 1, _, by omega, by omega, by go_num, rfl, ⟨?_⟩, HB⟩
       rw [filter_step, HF.out, if_neg (by simp), List.append_nil]
       exact HS.out
     | true =>
      have HF := Aside0.mk (HBb.out.trans (soFar_least (tb l) c h)).symm
      have hut := Tryz.underlying24
      have hlen := filter_len (leastN h (tb l)) c
      generalize hLs : ((List.range c).filter (leastN h (tb l))).map groupN = Ls at *
      have HLs := Aside0.mk hLs
      clear hLs
      have Hlen := Aside0.mk hlen
      clear hlen
      go_wp2_with (first | (go_at_call 56; refine (of_calls c hc128 _).mono ?_; rintro e w2 ⟨v2, rfl, hr2, hb2⟩; obtain ⟨A2, c2, rfl⟩ := R_slice hr2; have HR2 := Aside0.mk hr2; have HB2 := Aside0.mk hb2; clear hr2 hb2) | (at_builtin; refine S_append dR (w0 := w.alloc (.cells #[.int .i64 0, .slice none 0 0] 26)) (W := w2) (w.heap.size + 1) (by simp) (.tmp 45) (.tmp 48) 24 27 (.slice none 0 0) 24 rfl hut infoR rfl (by decide) (by decide) u Ls (groupN c) [.slice A2 (groupN c).length c2] (fun _ => True) (fun k => wr.heap.size ≤ k) rfl rfl ?h1 ?h2 ?h3 ?h4 ?h5 ?h6 ?h7 ?_; (case h1 => exact ⟨_, rfl, R_mono (R_lower (R_bound HR2.out) (by have := HB.out.size; simpa using this)) (fun k hk => hk.2.1)⟩); (case h2 => exact fun k hk => ⟨trivial, fun e => by have := S_lt HS.out k e.symm; omega⟩); (case h3 => exact fun _ _ => trivial); (case h4 => exact S_mono (S_old HS.out HB2.out) (fun k hk => ⟨trivial, by have := hk.2; omega⟩)); (case h5 => exact below_then HB.out (by have := HB.out.size; simpa using this) HB2.out); (case h6 => have := HB.out.size; have h2 := HB2.out.size; simp at this; omega); (case h7 => have := Hlen.out; omega); intro v3 w3 hS3 hB3 hg3 hat3; have HS3 := Aside0.mk hS3; have HB3 := Aside0.mk hB3; clear hS3 hB3 hg3 hat3))
      go_roundg (L - (c + 1))
      case measure => omega
      case rel =>
       refine ⟨c + 1, _, by omega, by omega, by go_num, rfl, ⟨?_⟩, HB3⟩
       rw [filter_step, HF.out, if_pos rfl, HLs.out]
       exact HS3.out
  ·
   have hltz : ¬ (c : Int) < (L : Int) := by omega
   obtain rfl : c = L := by omega
   obtain ⟨A1, c1, rfl⟩ := S_slice HS.out
   have hu := Tryz.underlying26
   have hlen62 : (((List.range c).filter (leastN n (tb l))).map groupN).length < 4611686018427387904 := by have := HLL.out; omega
   have hS := sorted_calls (w.heap.size + 1) (fun _ => True) _ _ wr HS.out hlen62
   have HL2 : (((List.range c).filter (leastN n (tb l))).map groupN).length = ((((List.range c).filter (leastN n (tb l))).map groupN).mergeSort leL).length := by rw [List.length_mergeSort]
   have hbk : ∀ k, some k = (Value.slice A1 (((List.range c).filter (leastN n (tb l))).map groupN).length c1).ownBlock → w.heap.size + 1 ≤ k := fun k hk => S_base HS.out k hk.symm
   rw [HL2] at hS hbk ⊢
   clear HL2
   generalize hR : (((List.range c).filter (leastN n (tb l))).map groupN).mergeSort leL = R at *
   have HR := Aside0.mk hR
   clear hR
   have hsz' : w.heap.size + 1 ≤ wr.heap.size := by have := HB.out.size; simpa using this
   go_wp2_with (go_at_call 69; (refine hS.mono ?_; rintro e w1 ⟨rfl, hS', hg'⟩; have HB1 := Aside0.mk (pw_below_grown HB.out _ hsz' hg' (fun k hk => hbk k hk.symm)); have HZ := Aside0.mk (blk_below (blk_at (k := w.heap.size) (W := w) rfl) (HB1.out.mono (B' := (w.alloc (.cells #[.int .i64 0, .slice none 0 0] 26)).heap.size) (by simp))); have z0 : w1.cell? ⟨w.heap.size, 0, none⟩ = some (.int .i64 0) := (blk_cell HZ.out 0).trans rfl; have z1 : w1.cell? ⟨w.heap.size, 1, none⟩ = some (.slice none 0 0) := (blk_cell HZ.out 1).trans rfl; have f0 := blk_frozen HZ.out 0; have f1 := blk_frozen HZ.out 1; have HS' := Aside0.mk hS'; clear hS' hg'))
   have p0 := fun a b => put0 (a := a) (b := b) HZ.out
   have p1 := fun a b => put1 (a := a) (b := b) HZ.out
   refine bodyPost_ret (v := .agg #[.int .i64 (n : Int), .slice A1 R.length c1]) (by simp [results, Tryz.results57, go_sem, p0, p1]) rfl ⟨_, rfl, (by rw [HR.out]; exact S_put HZ.out (S_lower HS'.out (Nat.le_succ _))), ?_⟩
   have h1 : Below w.heap.size w w1 := below_then (B := w.heap.size) (below_alloc (Below.refl _ _) _) (by simp) (HB1.out.mono (by simp))
   exact below_set (below_set h1 (Nat.le_refl _)) (Nat.le_refl _)

def FromF (n : Int) (l : List Bool) : Option (Int × List (List Int)) := if (0 ≤ n ∧ n ≤ 7) ∧ l.length = 2 ^ n.toNat then some (n, famN n.toNat (tb l)) else none
theorem FromF_calls (n : Int) (A : Option Addr) (cc : Nat) (l : List Bool) (r1 : Int) (r2 : List (List Int)) (w : World) (hb : Kd.C Kd.bool w A l.length l) (hcc : l.length ≤ cc) (h : FromF n l = some (r1, r2)) :
  Calls Tryz.prog 57 #[.int .i64 n, .slice A l.length cc] w fun e w' => ∃ v, e = .returned (.agg #[.int .i64 r1, v]) ∧ Kd.S dR 27 w' w.heap.size (fun _ => True) v r2 ∧ Below w.heap.size w w' := by
 unfold FromF at h
 split at h
 ·
  rename_i hh
  obtain ⟨rfl, rfl⟩ : n = r1 ∧ famN n.toNat (tb l) = r2 := by simpa using h
  have := from_calls n.toNat (by omega) A cc l w hh.2 hb hcc
  rwa [show ((n.toNat : Nat) : Int) = n by omega] at this
 ·
  cases h

end Go.Proofs.YtgemfighmnnmeaaGreat.From
