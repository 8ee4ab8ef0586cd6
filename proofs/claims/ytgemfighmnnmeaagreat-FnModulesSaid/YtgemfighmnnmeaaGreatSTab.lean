/- Contract of the reference's l01Table. -/
import Derived.Test.YtgemfighmnnmeaaGreatOk
namespace Go.Proofs.YtgemfighmnnmeaaGreat.SOpen
open Go.RowKit Go.Lib Go.Proofs Go.Proofs.YtgemfighmnnmeaaGreatW.PrintWords Go.Proofs.YtgemfighmnnmeaaGreatW.PrintWords.Kd Go.Proofs.YtgemfighmnnmeaaGreatW.PrintLast Go.Proofs.YtgemfighmnnmeaaGreatW.PrintMore Go.Proofs.YtgemfighmnnmeaaGreat.G Go.Proofs.YtgemfighmnnmeaaGreat.Fam Go.Proofs.YtgemfighmnnmeaaGreat.Loops Go.Proofs.YtgemfighmnnmeaaGreat.Bits Go.Proofs.YtgemfighmnnmeaaGreat.Sorting Go.Proofs.YtgemfighmnnmeaaGreat.Crowds Go.Proofs.YtgemfighmnnmeaaGreat.Sorted Go.Proofs.YtgemfighmnnmeaaGreat.Idx Go.Proofs.YtgemfighmnnmeaaGreat.Valid Go.Proofs.YtgemfighmnnmeaaGreat.FamLaw Go.Proofs.YtgemfighmnnmeaaGreat.Opens Go.Proofs.YtgemfighmnnmeaaGreat.Ops Go.Proofs.YtgemfighmnnmeaaGreat.From Go.Proofs.YtgemfighmnnmeaaGreat.Ref Go.Proofs.YtgemfighmnnmeaaGreat.Ok
set_option linter.unusedVariables false
set_option linter.unusedSimpArgs false

theorem l01Table_calls (g : Nat) (n : Nat) (hn : n ≤ 7) (gs : List (List Int)) (hs : Smalls gs) (w0 w : World) (hI : IsS26 w0 w g (n : Int) gs) (hB : Below w0.heap.size w0 w) :
  Calls Tryz.prog 58 #[.pointer (some ⟨g, 0, none⟩)] w fun e w' => ∃ T c, e = .returned (.slice T (2 ^ n) c) ∧ 2 ^ n ≤ c ∧ Kd.C Kd.bool w' T (2 ^ n) (tableN n gs) ∧ IsS26 w0 w' g (n : Int) gs ∧ Below w0.heap.size w0 w' ∧ KeepBut w w' g none := by
 have hI' := hI
 obtain ⟨A, c, _, _, hC⟩ := hI'
 have hl := lens_of hC
 obtain ⟨k, hk⟩ := (table_is n hn gs hs hl.2 hl.1).rounds
 refine (spec_l01Table.calls k g (n : Int) gs _ _ w0 w hI hB hk).mono ?_
 rintro e w' ⟨v, rfl, hr, hi, hb, hk⟩
 obtain ⟨T, cT, rfl, hc, hCT⟩ := R_reads hr
 rw [tableN_len] at hc hCT ⊢
 exact ⟨T, cT, rfl, hc, hCT, hi, hb, hk⟩
theorem tab_cell {W : World} {T : Option Addr} {M : Nat} {l : List Bool} (h : Kd.C Kd.bool W T M l) {i : Nat} (hi : i < M) : ∃ ad, T = some ad ∧ W.cell? (ad.add i) = some (.bool (tb l i)) := by
 obtain rfl := h.1
 exact table_at h hi
theorem hold_of {w0 W : World} {g : Nat} {n : Int} {gs : List (List Int)} (h : IsS26 w0 W g n gs) : W.cell? ⟨g, 0, none⟩ = some (.int .i64 n) := by
 obtain ⟨A, c, hb, _⟩ := h
 exact (blk_cell hb 0).trans rfl

theorem is_cells {w0 W : World} {g : Nat} {n : Int} {gs : List (List Int)} (h : IsS26 w0 W g n gs) (hB : Below w0.heap.size w0 W) :
  ∃ A c, W.cell? ⟨g, 0, none⟩ = some (.int .i64 n) ∧ W.cell? ⟨g, 1, none⟩ = some (.slice A gs.length c) ∧ dR.C W A gs.length gs := by
 obtain ⟨A, c, hb, _, hC⟩ := h
 exact ⟨A, c, (blk_cell hb 0).trans rfl, (blk_cell hb 1).trans rfl, C_below hC hB⟩
theorem okS_calls (g : Nat) (n : Int) (gs : List (List Int)) (w0 w : World) (hI : IsS26 w0 w g n gs) (hB : Below w0.heap.size w0 w) :
  Calls Tryz.prog 60 #[.pointer (some ⟨g, 0, none⟩)] w fun e w' => e = .returned (.bool (decide (ValidF n gs))) ∧ Below w.heap.size w w' := by
 obtain ⟨A, c, h0, h1, hC⟩ := is_cells hI hB
 exact ok_calls g n A c gs w h0 h1 hC
theorem isS_keep {w0 W W' : World} {g b : Nat} {n : Int} {gs : List (List Int)} (h : IsS26 w0 W g n gs) (hk : KeepBut W W' b none) (hne : g ≠ b) : IsS26 w0 W' g n gs := by
 obtain ⟨A, c, hb, hg, hC⟩ := h
 exact ⟨A, c, hk.blk hb hne (by simp), hg, hC⟩
theorem kept_of {W W' : World} {g : Nat} {P : Nat → Prop} (hk : KeepBut W W' g none) (hP : P g) : Kept W W' P := ⟨hk.1, fun i hi hn => hk.2 i hi (fun e => hn (by rw [e]; exact hP)) (by simp)⟩
theorem infoB : (Tryz.prog.info? 4).map (fun i => (i.zero, i.size, i.bytes)) = some (some (.bool false), 1, 1) := by kernel_rfl

theorem tableR_calls (g : Nat) (n : Nat) (hn : n ≤ 7) (gs : List (List Int)) (hs : Smalls gs) (w0 w : World) (hI : IsS26 w0 w g (n : Int) gs) (hB : Below w0.heap.size w0 w) :
  Calls Tryz.prog 58 #[.pointer (some ⟨g, 0, none⟩)] w fun e w' => ∃ T c, e = .returned (.slice T (2 ^ n) c) ∧ 2 ^ n ≤ c ∧ Kd.R Kd.bool 4 w' w.heap.size (fun _ => True) (.slice T (2 ^ n) c) (tableN n gs) ∧ IsS26 w0 w' g (n : Int) gs ∧ Below w0.heap.size w0 w' ∧ KeepBut w w' g none := by
 have hI' := hI
 obtain ⟨A, c, _, _, hC⟩ := hI'
 have hl := lens_of hC
 obtain ⟨k, hk⟩ := (table_is n hn gs hs hl.2 hl.1).rounds
 refine (spec_l01Table.calls k g (n : Int) gs _ _ w0 w hI hB hk).mono ?_
 rintro e w' ⟨v, rfl, hr, hi, hb, hk⟩
 obtain ⟨T, cT, rfl, hc, hCT⟩ := R_reads hr
 rw [tableN_len] at hc hr ⊢
 exact ⟨T, cT, rfl, hc, hr, hi, hb, hk⟩
theorem R_still {w w3 w4 : World} {e g : Nat} {v : Value} {l : List Bool} (h : Kd.R Kd.bool e w3 w.heap.size (fun _ => True) v l) (hk : KeepBut w3 w4 g none) (hg : g < w.heap.size) : Kd.R Kd.bool e w4 w.heap.size (fun _ => True) v l :=
 R_mono (R_keep (R_mono (R_bound h) (fun k hk => hk.2.1)) hk (fun k hk => by have : w.heap.size ≤ k := hk; omega)) (fun _ _ => trivial)

end Go.Proofs.YtgemfighmnnmeaaGreat.SOpen
