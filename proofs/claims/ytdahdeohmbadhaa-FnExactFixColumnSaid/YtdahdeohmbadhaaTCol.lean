/- Contract of the reference's l06Column; what is made of a table's rows without a holder. -/
import Derived.Test.YtdahdeohmbadhaaTMade
import Derived.Test.YtdahdeohmbadhaaGx7
import Derived.Test.YtdahdeohmbadhaaGx3
namespace Go.Proofs.Ytdahdeohmbadhaa.TCol
open Go.RowKit Go.Lib Go.Proofs Go.Proofs.YtdahdeohmbadhaaW.PrintWords Go.Proofs.YtdahdeohmbadhaaW.PrintWords.Kd Go.Proofs.YtdahdeohmbadhaaW.PrintLast Go.Proofs.YtdahdeohmbadhaaW.PrintMore Go.Proofs.Ytdahdeohmbadhaa.G Go.Proofs.Ytdahdeohmbadhaa.Fam Go.Proofs.Ytdahdeohmbadhaa.Loops Go.Proofs.Ytdahdeohmbadhaa.MarkT Go.Proofs.Ytdahdeohmbadhaa.TSort Go.Proofs.Ytdahdeohmbadhaa.TCmp Go.Proofs.Ytdahdeohmbadhaa.TLess Go.Proofs.Ytdahdeohmbadhaa.TShape Go.Proofs.Ytdahdeohmbadhaa.TOk Go.Proofs.Ytdahdeohmbadhaa.TMerge Go.Proofs.Ytdahdeohmbadhaa.ExTC Go.Proofs.Ytdahdeohmbadhaa.TMade
set_option linter.unusedVariables false
set_option linter.unusedSimpArgs false

instance (n : Int) (sz : List Int) (rs : List Row) : Decidable (TabOk n sz rs) := by unfold TabOk; exact inferInstance
/-- The code of a table and a holder that is not the only one. -/
def colCode (n : Int) (sz : List Int) (rs : List Row) (h : Int) : Int :=
  if TabOk n sz rs then (if (0 ≤ h ∧ h ≤ wrap64 ((sz.length : Int) - 1)) ∧ (sz.length : Int) ≠ 1 then 0 else 2) else 1
def colF (k : Nat) (n : Int) (sz : List Int) (rs : List Row) (h : Int) : Option Int := some (colCode n sz rs h)
theorem colF.mono : ∀ a0 a1 a2 a3 k, LeO (colF k a0 a1 a2 a3) (colF (k + 1) a0 a1 a2 a3) := fun _ _ _ _ _ r h => h

set_option maxHeartbeats 4000000 in
set_option maxRecDepth 100000 in
theorem column_calls (B : Nat) (n : Int) (A1 : Option Addr) (c1 : Nat) (sz : List Int) (A2 : Option Addr) (c2 : Nat) (rs : List Row) (h : Int) (W : World) (hT : TabBox W B n A1 c1 sz A2 c2 rs) :
    Calls Try.prog 72 #[.pointer (some ⟨B, 0, none⟩), .int .i64 h] W fun e w' => e = .returned (.int .i64 (colCode n sz rs h)) ∧ ∃ q, w' = W.drewN q := by
  have hu := Try.underlying27
  have HOK := ok_calls B n A1 c1 sz A2 c2 rs W hT (decide (TabOk n sz rs)) (by simp)
  have HT := Aside0.mk hT
  have b1 := hT.2.1
  clear hT
  unfold colCode
  by_cases h1 : TabOk n sz rs
  · rw [decide_eq_true h1] at HOK
    simp only [if_pos h1]
    have hl : sz.length ≤ 7 := by have := h1.1.2.1; omega
    have hw : wrap64 ((sz.length : Int) - 1) = (sz.length : Int) - 1 := wrap_id (by omega) (by omega)
    have HIN := fun W => in_calls h 0 ((sz.length : Int) - 1) W
    rw [hw]
    by_cases h2 : 0 ≤ h ∧ h ≤ (sz.length : Int) - 1
    · rw [decide_eq_true h2] at HIN
      by_cases h3 : (sz.length : Int) = 1
      · have e3 : ((sz.length : Int) == 1) = true := by simpa using h3
        simp only [if_neg (show ¬ ((0 ≤ h ∧ h ≤ (sz.length : Int) - 1) ∧ (sz.length : Int) ≠ 1) from fun h4 => h4.2 h3)]
        clear h1 h2 h3 hl
        go_enter Try.func72, Try.ntmps72
        go_wp2_with (first | (go_at_call 88; (with_reducible refine HOK.mono ?_); clear HOK; rintro e w' ⟨rfl, q1, rfl⟩) | (go_at_call 95; (with_reducible refine (HIN _).mono ?_); rintro e w' ⟨rfl, q2, rfl⟩))
        go_ret
        exact ⟨rfl, _, by first | rfl | (rw [World.drewN_drewN])⟩
      · have e3 : ((sz.length : Int) == 1) = false := by simpa using h3
        simp only [if_pos (show (0 ≤ h ∧ h ≤ (sz.length : Int) - 1) ∧ (sz.length : Int) ≠ 1 from ⟨h2, h3⟩)]
        clear h1 h2 h3 hl
        go_enter Try.func72, Try.ntmps72
        go_wp2_with (first | (go_at_call 88; (with_reducible refine HOK.mono ?_); clear HOK; rintro e w' ⟨rfl, q1, rfl⟩) | (go_at_call 95; (with_reducible refine (HIN _).mono ?_); rintro e w' ⟨rfl, q2, rfl⟩))
        go_ret
        exact ⟨rfl, _, by first | rfl | (rw [World.drewN_drewN])⟩
    · rw [decide_eq_false h2] at HIN
      simp only [if_neg (show ¬ ((0 ≤ h ∧ h ≤ (sz.length : Int) - 1) ∧ (sz.length : Int) ≠ 1) from fun h4 => h2 h4.1)]
      clear h1 h2 hl
      go_enter Try.func72, Try.ntmps72
      go_wp2_with (first | (go_at_call 88; (with_reducible refine HOK.mono ?_); clear HOK; rintro e w' ⟨rfl, q1, rfl⟩) | (go_at_call 95; (with_reducible refine (HIN _).mono ?_); rintro e w' ⟨rfl, q2, rfl⟩))
      go_ret
      exact ⟨rfl, _, by first | rfl | (rw [World.drewN_drewN])⟩
  · rw [decide_eq_false h1] at HOK
    simp only [if_neg h1]
    clear h1
    go_enter Try.func72, Try.ntmps72
    go_wp2_with (first | (go_at_call 88; (with_reducible refine HOK.mono ?_); clear HOK; rintro e w' ⟨rfl, q1, rfl⟩))
    go_ret
    exact ⟨rfl, _, by first | rfl | (rw [World.drewN_drewN])⟩

/-- The same, the table being in a variable. -/
theorem column_box (k : Nat) (n : Int) (A1 : Option Addr) (c1 : Nat) (sz : List Int) (A2 : Option Addr) (c2 : Nat) (rs : List Row) (h r : Int) (g : Nat) (W : World) (hb : W.heap[g]? = some (.cells #[.int .i64 n, .slice A1 sz.length c1, .slice A2 rs.length c2] tabT (0, 0))) (h1 : Kd.C (Kd.int .i64) W A1 sz.length sz) (hc1 : sz.length ≤ c1) (h2 : Kd.C dW W A2 rs.length rs) (hc2 : rs.length ≤ c2) (hf : colF k n sz rs h = some r) :
    Calls Try.prog 72 #[.pointer (some ⟨g, 0, none⟩), .int .i64 h] W fun e w' => e = .returned (.int .i64 r) ∧ Below W.heap.size W w' := by
  obtain rfl := Option.some.inj hf
  refine (column_calls g n A1 c1 sz A2 c2 rs h W ⟨(blk_cell hb 0).trans rfl, (blk_cell hb 1).trans rfl, (blk_cell hb 2).trans rfl, h1, hc1, h2, hc2⟩).mono ?_
  rintro e w' ⟨he, q, rfl⟩
  exact ⟨he, pw_below_drewN (Below.refl _ _) q⟩
/-- What is made of rows without a holder. -/
def tailF (n : Int) (sz : List Int) (h : Int) (rs : List Row) : Option (Int × List Int × List Row × Int) :=
  (spec_l06Without.f sz h).bind fun z => if rs.length ≤ 1048576 then some (if ShapeOk n z rs then (n, z, rs.mergeSort leT, 0) else (0, [], [], 3)) else none
theorem made_as {n : Int} {z : List Int} {rs : List Row} {r1 : Int} {r2 : List Int} {r3 : List Row} {r4 : Int} (h : (if ShapeOk n z rs then (n, z, rs.mergeSort leT, (0 : Int)) else (0, [], [], 3)) = (r1, r2, r3, r4)) (W : World) : MadeRes W 3 n z rs = TabRes W r1 r2 r3 r4 := by
  unfold MadeRes
  by_cases hs : ShapeOk n z rs
  · rw [if_pos hs] at h
    simp only [Prod.mk.injEq] at h
    obtain ⟨rfl, rfl, rfl, rfl⟩ := h
    funext e w'
    simp only [if_pos hs]
  · rw [if_neg hs] at h
    simp only [Prod.mk.injEq] at h
    obtain ⟨rfl, rfl, rfl, rfl⟩ := h
    funext e w'
    simp only [if_neg hs]
end Go.Proofs.Ytdahdeohmbadhaa.TCol
