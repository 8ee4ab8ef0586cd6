/- The same at []int64. -/
import Derived.Test.YtgemfighmnnmeaaBits
import Derived.Test.YtgemfighmnnmeaaWWords
import Derived.Test.YtgemfighmnnmeaaWMore
import Derived.Test.YtgemfighmnnmeaaProg
import Derived.WalkKit
import Derived.Deep.LoopGhost
import Derived.Shelf.Abstract
namespace Go.Proofs.Ytgemfighmnnmeaa.Idx
open Go.RowKit Go.Proofs.YtgemfighmnnmeaaW.PrintWords Go.Proofs.YtgemfighmnnmeaaW.PrintLast Go.Proofs.YtgemfighmnnmeaaW.PrintMore
set_option linter.unusedVariables false
set_option linter.unusedSimpArgs false

set_option maxHeartbeats 2000000 in
theorem idx_ints {α : Type} {d : Kd α} (hs : d.sz = 1) (g : Nat) (lb : Array Value) (eg : ∀ args w, (callFunc g args).run Try.prog w = .ok (.enter g args) w) (p : α → Bool) (ok : α → Prop) (A : Option Addr) (c : Nat) (xs : List α) (w : World)
    (hC : d.C w A xs.length xs) (hok : ∀ x ∈ xs, ok x) (hp : PredB Try.prog g lb d ok p w) :
    Calls Try.prog 36 #[.slice A xs.length c, .func (.func g) #[] lb] w fun e w' => (∃ r, e = .returned (.int .i64 r) ∧ IdxPost p xs r) ∧ Below w.heap.size w w' := by
  have hbig : xs.length ≤ 9223372036854775807 := hC.2.1
  have HC := Aside0.mk hC
  have HP := Aside0.mk hp
  have HO := Aside0.mk hok
  clear hC hp hok
  go_enter Try.func36, Try.ntmps36
  go_wp2
  go_loopg [5, 8] xs.length (fun gg _ s8 wr => ∃ kk : Nat, kk ≤ xs.length ∧ xs.length - kk ≤ gg ∧ s8 = .int .i64 kk ∧ Aside0 (Below w.heap.size w wr) ∧ Aside0 (∀ (j : Nat) (hj : j < xs.length), j < kk → p xs[j] = false))
  case atStart => exact ⟨0, Nat.zero_le _, by omega, rfl, ⟨Below.refl _ w⟩, ⟨fun j _ hj => absurd hj (Nat.not_lt_zero _)⟩⟩
  case round =>
    obtain ⟨kk, hkk, hg, rfl, BW, AA⟩ := hrel
    by_cases hlt : kk < xs.length
    · have hltz : (kk : Int) < (xs.length : Int) := by omega
      obtain ⟨ad, v, rfl, hcell, hK⟩ := elem_at hs HC.out kk hlt
      have l2 : wr.cell? (ad.add kk) = some v := pw_cell_below BW.out hcell
      have hcall := HP.out wr xs[kk] v BW.out (HO.out _ (List.getElem_mem hlt)) (d.K_below BW.out hK)
      clear hcell hK
      cases hq : p xs[kk] with
      | true =>
        rw [hq] at hcall
        have HQ := Aside0.mk hq
        clear hq
        go_wp2_with (go_at_fn g; refine hcall.mono ?_; rintro e w' ⟨rfl, hb'⟩)
        go_ret
        exact ⟨⟨_, rfl, .inr ⟨kk, rfl, hlt, HQ.out, fun j hj => AA.out j (by omega) hj⟩⟩, below_then BW.out BW.out.size hb'⟩
      | false =>
        rw [hq] at hcall
        have HQ := Aside0.mk hq
        clear hq
        go_wp2_with (go_at_fn g; refine hcall.mono ?_; rintro e w' ⟨rfl, hb'⟩)
        go_roundg (xs.length - (kk + 1))
        case measure => omega
        case rel =>
          refine ⟨kk + 1, by omega, by omega, by go_num, ⟨below_then BW.out BW.out.size hb'⟩, ⟨fun j hj hj' => ?_⟩⟩
          by_cases e : j = kk
          · subst e
            exact HQ.out
          · exact AA.out j hj (by omega)
    · have hltz : ¬ (kk : Int) < (xs.length : Int) := by omega
      obtain rfl : kk = xs.length := by omega
      go_wp2
      go_ret
      refine ⟨⟨_, rfl, .inl ⟨rfl, fun x hx => ?_⟩⟩, BW.out⟩
      obtain ⟨j, hj, rfl⟩ := List.mem_iff_getElem.1 hx
      exact AA.out j hj hj

set_option maxHeartbeats 1000000 in
theorem contains_ints {α : Type} {d : Kd α} (hs : d.sz = 1) (g : Nat) (lb : Array Value) (eg : ∀ args w, (callFunc g args).run Try.prog w = .ok (.enter g args) w) (p : α → Bool) (ok : α → Prop) (A : Option Addr) (c : Nat) (xs : List α) (w : World)
    (hC : d.C w A xs.length xs) (hok : ∀ x ∈ xs, ok x) (hp : PredB Try.prog g lb d ok p w) :
    Calls Try.prog 17 #[.slice A xs.length c, .func (.func g) #[] lb] w fun e w' => e = .returned (.bool (xs.any p)) ∧ Below w.heap.size w w' := by
  have H := idx_ints hs g lb eg p ok A c xs w hC hok hp
  clear hC hok hp
  go_enter Try.func17, Try.ntmps17
  go_wp2_with (go_at_call 36; refine H.mono ?_; rintro e w' ⟨⟨r, rfl, hr⟩, hb⟩)
  go_ret
  exact ⟨by rw [← hr.any]; rfl, hb⟩

end Go.Proofs.Ytgemfighmnnmeaa.Idx
