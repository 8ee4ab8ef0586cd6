/- Contracts of slices.IndexFunc and slices.ContainsFunc at [][]int64 and []int64, whatever predicate is handed over (it may make memory of its own). -/
import Derived.Test.YtmeaffkgnmgmeaaWWords
import Derived.Test.YtmeaffkgnmgmeaaWMore
import Derived.Test.YtmeaffkgnmgmeaaProg
import Derived.WalkKit
import Derived.Deep.LoopGhost
import Derived.Shelf.Abstract
namespace Go.Proofs.Ytmeaffkgnmgmeaa.Idx
open Go.RowKit Go.Proofs.YtmeaffkgnmgmeaaW.PrintWords Go.Proofs.YtmeaffkgnmgmeaaW.PrintLast Go.Proofs.YtmeaffkgnmgmeaaW.PrintMore
set_option linter.unusedVariables false
set_option linter.unusedSimpArgs false

/-- What is asked of a function value: at every element that is ok, in every world in which all that lay in w lies untouched, it hands back p of it. -/
def PredB (P : Program) (g : Nat) (lb : Array Value) {α : Type} (d : Kd α) (ok : α → Prop) (p : α → Bool) (w : World) : Prop :=
  ∀ (W : World) (x : α) (v : Value), Below w.heap.size w W → ok x → d.K W x [v] → Calls P g (#[v] ++ lb) W fun e w' => e = .returned (.bool (p x)) ∧ Below W.heap.size W w'

theorem PredB.later {P : Program} {g : Nat} {lb : Array Value} {α : Type} {d : Kd α} {ok : α → Prop} {p : α → Bool} {w w1 : World} (h : PredB P g lb d ok p w) (hb : Below w.heap.size w w1) : PredB P g lb d ok p w1 :=
  fun W x v hB => h W x v (below_then hb hb.size hB)

/-- What IndexFunc tells. -/
def IdxPost {α : Type} (p : α → Bool) (xs : List α) (r : Int) : Prop :=
  (r = -1 ∧ ∀ x ∈ xs, p x = false) ∨ ∃ n : Nat, r = n ∧ ∃ h : n < xs.length, p xs[n] = true ∧ ∀ (j : Nat) (hj : j < n), p (xs[j]'(by omega)) = false

theorem IdxPost.any {α : Type} {p : α → Bool} {xs : List α} {r : Int} (h : IdxPost p xs r) : decide (r ≥ 0) = xs.any p := by
  rcases h with ⟨rfl, h⟩ | ⟨n, rfl, hn, h, _⟩
  · symm
    have : xs.any p = false := by rw [List.any_eq_false]; intro x hx; rw [h x hx]; simp
    rw [this]; rfl
  · have : xs.any p = true := List.any_eq_true.2 ⟨_, List.getElem_mem hn, h⟩
    rw [this]; simp

/-- A row's element number i, as the walk reads it. -/
theorem elem_at {α : Type} {d : Kd α} (hs : d.sz = 1) {w : World} {A : Option Addr} {n : Nat} {xs : List α} (h : d.C w A n xs) (i : Nat) (hi : i < xs.length) :
    ∃ ad v, A = some ad ∧ w.cell? (ad.add i) = some v ∧ d.K w xs[i] [v] := by
  have hn := h.1
  obtain ⟨ad, e, hc⟩ := h.2.2 (by omega)
  obtain ⟨c, hl, hK, hcell⟩ := hc i xs[i] (List.getElem?_eq_getElem hi)
  match c, hl, hK, hcell with
  | [v], _, hK, hcell => exact ⟨ad, v, e, by have := hcell 0 v rfl; rwa [hs, Nat.mul_one, Nat.add_zero] at this, hK⟩
  | [], hl, _, _ => simp [hs] at hl
  | _ :: _ :: _, hl, _, _ => simp [hs] at hl

set_option maxHeartbeats 2000000 in
theorem idx_rows {α : Type} {d : Kd α} (hs : d.sz = 1) (g : Nat) (lb : Array Value) (eg : ∀ args w, (callFunc g args).run Try.prog w = .ok (.enter g args) w) (p : α → Bool) (ok : α → Prop) (A : Option Addr) (c : Nat) (xs : List α) (w : World)
    (hC : d.C w A xs.length xs) (hok : ∀ x ∈ xs, ok x) (hp : PredB Try.prog g lb d ok p w) :
    Calls Try.prog 113 #[.slice A xs.length c, .func (.func g) #[] lb] w fun e w' => (∃ r, e = .returned (.int .i64 r) ∧ IdxPost p xs r) ∧ Below w.heap.size w w' := by
  have hbig : xs.length ≤ 9223372036854775807 := hC.2.1
  have HC := Aside0.mk hC
  have HP := Aside0.mk hp
  have HO := Aside0.mk hok
  clear hC hp hok
  go_enter Try.func113, Try.ntmps113
  go_wp2
  go_loopg [5, 8] xs.length (fun gg _ s8 wr => ∃ kk : Nat, kk ≤ xs.length ∧ xs.length - kk ≤ gg ∧ s8 = .int .i64 kk ∧ Aside0 (Below w.heap.size w wr) ∧ Aside0 (∀ (j : Nat) (hj : j < xs.length), j < kk → p xs[j] = false))
  case atStart => exact ⟨0, Nat.zero_le _, by omega, rfl, ⟨Below.refl _ w⟩, ⟨fun j _ hj => absurd hj (Nat.not_lt_zero _)⟩⟩
  case round =>
    obtain ⟨kk, hkk, hg, rfl, BW, AA⟩ := hrel
    by_cases hlt : kk < xs.length
    · have hltz : (kk : Int) < (xs.length : Int) := by omega
      obtain ⟨ad, v, rfl, hcell, hK⟩ := elem_at hs HC.out kk hlt
      have l2 : wr.cell? (ad.add kk) = some v := pw_cell_below BW.out hcell
      have hcall := HP.out wr xs[kk] v BW.out (HO.out _ (List.getElem_mem hlt)) (d.K_below BW.out hK)
      clear hcell hK
      cases hq : p xs[kk] with
      | true =>
        rw [hq] at hcall
        have HQ := Aside0.mk hq
        clear hq
        go_wp2_with (go_at_fn g; refine hcall.mono ?_; rintro e w' ⟨rfl, hb'⟩)
        go_ret
        exact ⟨⟨_, rfl, .inr ⟨kk, rfl, hlt, HQ.out, fun j hj => AA.out j (by omega) hj⟩⟩, below_then BW.out BW.out.size hb'⟩
      | false =>
        rw [hq] at hcall
        have HQ := Aside0.mk hq
        clear hq
        go_wp2_with (go_at_fn g; refine hcall.mono ?_; rintro e w' ⟨rfl, hb'⟩)
        go_roundg (xs.length - (kk + 1))
        case measure => omega
        case rel =>
          refine ⟨kk + 1, by omega, by omega, by go_num, ⟨below_then BW.out BW.out.size hb'⟩, ⟨fun j hj hj' => ?_⟩⟩
          by_cases e : j = kk
          · subst e
            exact HQ.out
          · exact AA.out j hj (by omega)
    · have hltz : ¬ (kk : Int) < (xs.length : Int) := by omega
      obtain rfl : kk = xs.length := by omega
      go_wp2
      go_ret
      refine ⟨⟨_, rfl, .inl ⟨rfl, fun x hx => ?_⟩⟩, BW.out⟩
      obtain ⟨j, hj, rfl⟩ := List.mem_iff_getElem.1 hx
      exact AA.out j hj hj

set_option maxHeartbeats 1000000 in
theorem contains_rows {α : Type} {d : Kd α} (hs : d.sz = 1) (g : Nat) (lb : Array Value) (eg : ∀ args w, (callFunc g args).run Try.prog w = .ok (.enter g args) w) (p : α → Bool) (ok : α → Prop) (A : Option Addr) (c : Nat) (xs : List α) (w : World)
    (hC : d.C w A xs.length xs) (hok : ∀ x ∈ xs, ok x) (hp : PredB Try.prog g lb d ok p w) :
    Calls Try.prog 83 #[.slice A xs.length c, .func (.func g) #[] lb] w fun e w' => e = .returned (.bool (xs.any p)) ∧ Below w.heap.size w w' := by
  have H := idx_rows hs g lb eg p ok A c xs w hC hok hp
  clear hC hok hp
  go_enter Try.func83, Try.ntmps83
  go_wp2_with (go_at_call 113; refine H.mono ?_; rintro e w' ⟨⟨r, rfl, hr⟩, hb⟩)
  go_ret
  exact ⟨by rw [← hr.any]; rfl, hb⟩

set_option maxHeartbeats 2000000 in
theorem idx_ints {α : Type} {d : Kd α} (hs : d.sz = 1) (g : Nat) (lb : Array Value) (eg : ∀ args w, (callFunc g args).run Try.prog w = .ok (.enter g args) w) (p : α → Bool) (ok : α → Prop) (A : Option Addr) (c : Nat) (xs : List α) (w : World)
    (hC : d.C w A xs.length xs) (hok : ∀ x ∈ xs, ok x) (hp : PredB Try.prog g lb d ok p w) :
    Calls Try.prog 103 #[.slice A xs.length c, .func (.func g) #[] lb] w fun e w' => (∃ r, e = .returned (.int .i64 r) ∧ IdxPost p xs r) ∧ Below w.heap.size w w' := by
  have hbig : xs.length ≤ 9223372036854775807 := hC.2.1
  have HC := Aside0.mk hC
  have HP := Aside0.mk hp
  have HO := Aside0.mk hok
  clear hC hp hok
  go_enter Try.func103, Try.ntmps103
  go_wp2
  go_loopg [5, 8] xs.length (fun gg _ s8 wr => ∃ kk : Nat, kk ≤ xs.length ∧ xs.length - kk ≤ gg ∧ s8 = .int .i64 kk ∧ Aside0 (Below w.heap.size w wr) ∧ Aside0 (∀ (j : Nat) (hj : j < xs.length), j < kk → p xs[j] = false))
  case atStart => exact ⟨0, Nat.zero_le _, by omega, rfl, ⟨Below.refl _ w⟩, ⟨fun j _ hj => absurd hj (Nat.not_lt_zero _)⟩⟩
  case round =>
    obtain ⟨kk, hkk, hg, rfl, BW, AA⟩ := hrel
    by_cases hlt : kk < xs.length
    · have hltz : (kk : Int) < (xs.length : Int) := by omega
      obtain ⟨ad, v, rfl, hcell, hK⟩ := elem_at hs HC.out kk hlt
      have l2 : wr.cell? (ad.add kk) = some v := pw_cell_below BW.out hcell
      have hcall := HP.out wr xs[kk] v BW.out (HO.out _ (List.getElem_mem hlt)) (d.K_below BW.out hK)
      clear hcell hK
      cases hq : p xs[kk] with
      | true =>
        rw [hq] at hcall
        have HQ := Aside0.mk hq
        clear hq
        go_wp2_with (go_at_fn g; refine hcall.mono ?_; rintro e w' ⟨rfl, hb'⟩)
        go_ret
        exact ⟨⟨_, rfl, .inr ⟨kk, rfl, hlt, HQ.out, fun j hj => AA.out j (by omega) hj⟩⟩, below_then BW.out BW.out.size hb'⟩
      | false =>
        rw [hq] at hcall
        have HQ := Aside0.mk hq
        clear hq
        go_wp2_with (go_at_fn g; refine hcall.mono ?_; rintro e w' ⟨rfl, hb'⟩)
        go_roundg (xs.length - (kk + 1))
        case measure => omega
        case rel =>
          refine ⟨kk + 1, by omega, by omega, by go_num, ⟨below_then BW.out BW.out.size hb'⟩, ⟨fun j hj hj' => ?_⟩⟩
          by_cases e : j = kk
          · subst e
            exact HQ.out
          · exact AA.out j hj (by omega)
    · have hltz : ¬ (kk : Int) < (xs.length : Int) := by omega
      obtain rfl : kk = xs.length := by omega
      go_wp2
      go_ret
      refine ⟨⟨_, rfl, .inl ⟨rfl, fun x hx => ?_⟩⟩, BW.out⟩
      obtain ⟨j, hj, rfl⟩ := List.mem_iff_getElem.1 hx
      exact AA.out j hj hj

set_option maxHeartbeats 1000000 in
theorem contains_ints {α : Type} {d : Kd α} (hs : d.sz = 1) (g : Nat) (lb : Array Value) (eg : ∀ args w, (callFunc g args).run Try.prog w = .ok (.enter g args) w) (p : α → Bool) (ok : α → Prop) (A : Option Addr) (c : Nat) (xs : List α) (w : World)
    (hC : d.C w A xs.length xs) (hok : ∀ x ∈ xs, ok x) (hp : PredB Try.prog g lb d ok p w) :
    Calls Try.prog 60 #[.slice A xs.length c, .func (.func g) #[] lb] w fun e w' => e = .returned (.bool (xs.any p)) ∧ Below w.heap.size w w' := by
  have H := idx_ints hs g lb eg p ok A c xs w hC hok hp
  clear hC hok hp
  go_enter Try.func60, Try.ntmps60
  go_wp2_with (go_at_call 103; refine H.mono ?_; rintro e w' ⟨⟨r, rfl, hr⟩, hb⟩)
  go_ret
  exact ⟨by rw [← hr.any]; rfl, hb⟩

end Go.Proofs.Ytmeaffkgnmgmeaa.Idx
