/- Contract of the reference's l01Table. -/
import Derived.Test.YtmeaffkgnmgmeaaOk
namespace Go.Proofs.Ytmeaffkgnmgmeaa.SOpen
open Go.RowKit Go.Lib Go.Proofs Go.Proofs.YtmeaffkgnmgmeaaW.PrintWords Go.Proofs.YtmeaffkgnmgmeaaW.PrintWords.Kd Go.Proofs.YtmeaffkgnmgmeaaW.PrintLast Go.Proofs.YtmeaffkgnmgmeaaW.PrintMore Go.Proofs.Ytmeaffkgnmgmeaa.G Go.Proofs.Ytmeaffkgnmgmeaa.Fam Go.Proofs.Ytmeaffkgnmgmeaa.Loops Go.Proofs.Ytmeaffkgnmgmeaa.Bits Go.Proofs.Ytmeaffkgnmgmeaa.Sorting Go.Proofs.Ytmeaffkgnmgmeaa.Crowds Go.Proofs.Ytmeaffkgnmgmeaa.Sorted Go.Proofs.Ytmeaffkgnmgmeaa.Idx Go.Proofs.Ytmeaffkgnmgmeaa.Valid Go.Proofs.Ytmeaffkgnmgmeaa.FamLaw Go.Proofs.Ytmeaffkgnmgmeaa.Opens Go.Proofs.Ytmeaffkgnmgmeaa.Ops Go.Proofs.Ytmeaffkgnmgmeaa.From Go.Proofs.Ytmeaffkgnmgmeaa.Ref Go.Proofs.Ytmeaffkgnmgmeaa.Ok
set_option linter.unusedVariables false
set_option linter.unusedSimpArgs false

theorem l01Table_calls (g : Nat) (n : Nat) (hn : n ≤ 7) (gs : List (List Int)) (hs : Smalls gs) (w0 w : World) (hI : IsS27 w0 w g (n : Int) gs) (hB : Below w0.heap.size w0 w) :
    Calls Try.prog 81 #[.pointer (some ⟨g, 0, none⟩)] w fun e w' => ∃ T c, e = .returned (.slice T (2 ^ n) c) ∧ 2 ^ n ≤ c ∧ Kd.C Kd.bool w' T (2 ^ n) (tableN n gs) ∧ IsS27 w0 w' g (n : Int) gs ∧ Below w0.heap.size w0 w' ∧ KeepBut w w' g none := by
  have hI' := hI
  obtain ⟨A, c, _, _, hC⟩ := hI'
  have hl := lens_of hC
  obtain ⟨k, hk⟩ := (table_is n hn gs hs hl.2 hl.1).rounds
  refine (spec_l01Table.calls k g (n : Int) gs _ _ w0 w hI hB hk).mono ?_
  rintro e w' ⟨v, rfl, hr, hi, hb, hk⟩
  obtain ⟨T, cT, rfl, hc, hCT⟩ := R_reads hr
  rw [tableN_len] at hc hCT ⊢
  exact ⟨T, cT, rfl, hc, hCT, hi, hb, hk⟩
theorem tab_cell {W : World} {T : Option Addr} {M : Nat} {l : List Bool} (h : Kd.C Kd.bool W T M l) {i : Nat} (hi : i < M) : ∃ ad, T = some ad ∧ W.cell? (ad.add i) = some (.bool (tb l i)) := by
  obtain rfl := h.1
  exact table_at h hi
theorem hold_of {w0 W : World} {g : Nat} {n : Int} {gs : List (List Int)} (h : IsS27 w0 W g n gs) : W.cell? ⟨g, 0, none⟩ = some (.int .i64 n) := by
  obtain ⟨A, c, hb, _⟩ := h
  exact (blk_cell hb 0).trans rfl

end Go.Proofs.Ytmeaffkgnmgmeaa.SOpen
