/- Contract of the reference's l01Drawn, as a function of the source's state. -/
import Derived.Test.YtgemfighmnnmeaaGreatSome
namespace Go.Proofs.YtgemfighmnnmeaaGreat.Nest
open Go.RowKit Go.Lib Go.Proofs Go.Proofs.YtgemfighmnnmeaaGreatW.PrintWords Go.Proofs.YtgemfighmnnmeaaGreatW.PrintWords.Kd Go.Proofs.YtgemfighmnnmeaaGreatW.PrintLast Go.Proofs.YtgemfighmnnmeaaGreatW.PrintMore Go.Proofs.YtgemfighmnnmeaaGreat.G Go.Proofs.YtgemfighmnnmeaaGreat.Fam Go.Proofs.YtgemfighmnnmeaaGreat.Loops Go.Proofs.YtgemfighmnnmeaaGreat.Bits Go.Proofs.YtgemfighmnnmeaaGreat.Sorting Go.Proofs.YtgemfighmnnmeaaGreat.Crowds Go.Proofs.YtgemfighmnnmeaaGreat.Idx Go.Proofs.YtgemfighmnnmeaaGreat.Valid Go.Proofs.YtgemfighmnnmeaaGreat.Opens Go.Proofs.YtgemfighmnnmeaaGreat.FamLaw Go.Proofs.YtgemfighmnnmeaaGreat.Ops Go.Proofs.YtgemfighmnnmeaaGreat.From Go.Proofs.YtgemfighmnnmeaaGreat.Ref Go.Proofs.YtgemfighmnnmeaaGreat.Drawn Go.Proofs.YtgemfighmnnmeaaGreat.Some
set_option linter.unusedVariables false

def drawnS (cd : List Int) (a s n : Int) : Option (Int × List (List Int) × Int × Int) := if Bytes cd ∧ (0 ≤ a ∧ a < 1000) ∧ 1 ≤ n ∧ n ≤ 7 then (drawnF cd n.toNat a s).map fun r => (n, r.1, r.2.1, r.2.2) else none
theorem drawnS_calls (g : Nat) (s0_0 : List Int) (s0_1 : Int) (s0_2 : Int) (a1 : Int) (r1 : Int) (r2 : List (List Int)) (r3 : Int) (r4 : Int) (w0 w : World) (hI : IsS65 w0 w g s0_0 s0_1 s0_2) (hB : Below w0.heap.size w0 w) (h : drawnS s0_0 s0_1 s0_2 a1 = some (r1, r2, r3, r4)) :
  Calls Tryz.prog 42 #[.pointer (some ⟨g, 0, none⟩), .int .i64 a1] w fun e w' => ∃ v1_ : Value, e = .returned (.agg #[.int .i64 r1, v1_]) ∧ Kd.S (Kd.slice 2 (Kd.int .i64)) 27 w' w.heap.size (fun _ => True) v1_ r2 ∧ IsS65 w0 w' g s0_0 r3 r4 ∧ Below w0.heap.size w0 w' ∧ KeepBut w w' g none := by
 unfold drawnS at h
 split at h
 case isFalse => cases h
 rename_i hc
 obtain ⟨hby, ⟨h0, h1⟩, hn1, hn⟩ := hc
 obtain ⟨⟨gs, a', s'⟩, hD, he⟩ := Option.map_eq_some_iff.1 h
 simp only [Prod.mk.injEq] at he
 obtain ⟨rfl, rfl, rfl, rfl⟩ := he
 obtain ⟨n, rfl⟩ : ∃ n : Nat, a1 = (n : Int) := ⟨a1.toNat, by omega⟩
 rw [Int.toNat_natCast] at hD
 have hgw := hI.lt
 refine (drawn_calls s0_0 hby g s0_1 s0_2 h0 h1 n (by omega) (by omega) w0 w hI hB (fun x => x < w.heap.size ∧ x ≠ g) (fun x => (w.heap[x]?).getD (.cells #[] 0)) (fun x hx => hx.2) (fun x hx => by rw [Array.getElem?_eq_getElem hx.1]; rfl)).mono ?_
 rintro e w' ⟨v, gs', a2, s2, rfl, hD2, hS, hI2, _, _, hB2, hX⟩
 rw [hD] at hD2
 obtain ⟨rfl, rfl, rfl⟩ : gs = gs' ∧ a' = a2 ∧ s' = s2 := by simpa using hD2
 have hkeep : ∀ i, i < w.heap.size → i ≠ g → w'.heap[i]? = w.heap[i]? := fun i hi hne => by rw [hX i ⟨hi, hne⟩, Array.getElem?_eq_getElem hi]; rfl
 refine ⟨v, rfl, hS, hI2, hB2, ?_, fun i hi hne _ => hkeep i hi hne⟩
 by_cases hg : g = w.heap.size - 1
 ·
  have := hI2.lt
  omega
 ·
  have h2 := hkeep (w.heap.size - 1) (by omega) (by omega)
  rw [Array.getElem?_eq_getElem (show w.heap.size - 1 < w.heap.size by omega)] at h2
  have := (Array.getElem?_eq_some_iff.1 h2).1
  omega
theorem drawn_ok2 (cd : List Int) (hb : Bytes cd) (n : Nat) (hn1 : 1 ≤ n) (hn : n ≤ 7) (a s : Int) (h0 : 0 ≤ a) (h1 : a < 1000) : ∃ gs a' s', drawnF cd n a s = some (gs, a', s') ∧ ValidF (n : Int) gs ∧ 0 ≤ a' ∧ a' ≤ a + 20 := by
 have h7 : 2 ^ n ≤ 128 := two_pow_le hn
 obtain ⟨b, a1, s1, e1, a10, a11⟩ := one_ok cd hb a s 4 h0 (by omega) (by omega) (by omega)
 unfold drawnF
 rw [e1]
 simp only [Option.bind_some]
 cases b with
 | true =>
  rw [if_pos rfl]
  obtain ⟨ws, a2, s2, e2, hl, hx, a20, a21⟩ := weightsD_ok cd hb a1 s1 a10 (by omega) n hn
  rw [e2]
  simp only [Option.bind_some]
  have hs := wsum_le ws hx
  obtain ⟨q, a3, s3, e3, _, _, a30, a31⟩ := pick_ok cd hb a2 s2 (ws.sum + 2) a20 (by omega) (by omega) (by omega)
  rw [e3]
  exact ⟨_, _, _, rfl, famN_valid hn1 hn (weighB_mono n ws q (fun x hx' => by have := hx x hx'; omega)), a30, by show a3 ≤ a + 20; omega⟩
 | false =>
  rw [if_neg (by simp)]
  obtain ⟨k, a2, s2, e2, k0, k1, a20, a21⟩ := pick_ok cd hb a1 s1 5 a10 (by omega) (by omega) (by omega)
  rw [e2]
  simp only [Option.bind_some]
  obtain ⟨gs, a3, s3, e3, hx, a30, a31⟩ := groupsD_ok cd hb (2 ^ n) ⟨Nat.one_le_two_pow, h7⟩ a2 s2 a20 (by omega) k.toNat (by omega)
  rw [e3]
  refine ⟨_, _, _, rfl, famN_valid hn1 hn (openN_mono hn fun g hg => ?_), a30, by show a3 ≤ a + 20; omega⟩
  obtain ⟨c, hc, rfl⟩ := hx g hg
  exact groupN_is hn hc
theorem drawnS_ok (cd : List Int) (hb : Bytes cd) (n : Nat) (hn1 : 1 ≤ n) (hn : n ≤ 7) (a s : Int) (h0 : 0 ≤ a) (h1 : a < 900) : ∃ gs a' s', drawnS cd a s (n : Int) = some ((n : Int), gs, a', s') ∧ ValidF (n : Int) gs ∧ 0 ≤ a' ∧ a' ≤ a + 20 := by
 obtain ⟨gs, a', s', e, hv, h2, h3⟩ := drawn_ok2 cd hb n hn1 hn a s h0 (by omega)
 refine ⟨gs, a', s', ?_, hv, h2, h3⟩
 unfold drawnS
 rw [if_pos ⟨hb, ⟨h0, by omega⟩, by omega, by omega⟩, Int.toNat_natCast, e]
 rfl
end Go.Proofs.YtgemfighmnnmeaaGreat.Nest
