/- Contract of the reference's l06Ok: whether a table is valid. -/
import Derived.Test.YtdahdeohmbadhaaTShape
namespace Go.Proofs.Ytdahdeohmbadhaa.TOk
open Go.RowKit Go.Lib Go.Proofs Go.Proofs.YtdahdeohmbadhaaW.PrintWords Go.Proofs.YtdahdeohmbadhaaW.PrintWords.Kd Go.Proofs.YtdahdeohmbadhaaW.PrintLast Go.Proofs.YtdahdeohmbadhaaW.PrintMore Go.Proofs.Ytdahdeohmbadhaa.G Go.Proofs.Ytdahdeohmbadhaa.Fam Go.Proofs.Ytdahdeohmbadhaa.Loops Go.Proofs.Ytdahdeohmbadhaa.MarkT Go.Proofs.Ytdahdeohmbadhaa.TCmp Go.Proofs.Ytdahdeohmbadhaa.TLess Go.Proofs.Ytdahdeohmbadhaa.TShape
set_option linter.unusedVariables false
set_option linter.unusedSimpArgs false

theorem rows_at {W : World} {A : Option Addr} {rs : List Row} (h : Kd.C dW W A rs.length rs) (hpos : 0 < rs.length) : ∃ b o, A = some ⟨b, o, none⟩ ∧ ∀ i, i < rs.length → RowAt W b (o + i * 2) (rs.getD i zW) := by
  have hat := fun (i : Nat) (hi : i < rs.length) => at_T87 h (i : Int) (by omega) (by omega)
  obtain ⟨ad, A3, c3, rfl, hx0, _, _, _⟩ := hat 0 hpos
  obtain ⟨b, o, sub⟩ := ad
  have hsub : sub = none := by
    cases sub with
    | none => rfl
    | some s =>
      exfalso
      simp [World.cell?, Addr.add] at hx0
      split at hx0 <;> cases hx0
  subst hsub
  have hadd : ∀ j, (⟨b, o, none⟩ : Addr).add j = ⟨b, o + j, none⟩ := fun j => by unfold Addr.add; split <;> simp_all
  refine ⟨b, o, rfl, fun i hi => ?_⟩
  obtain ⟨ad, A4, c4, e, h0, h1, h2, h3⟩ := hat i hi
  injection e with e
  subst e
  rw [show rd_T87 rs (i : Int) = rs.getD i zW by simp [rd_T87]] at h0 h1 h2 h3
  rw [Int.toNat_natCast, hadd] at h0 h1
  exact ⟨h0, A4, c4, h1, h2, h3⟩
/-- A valid table. -/
def TabOk (n : Int) (sz : List Int) (rs : List Row) : Prop := ShapeOk n sz rs ∧ ∀ i, i < rs.length → 0 < i → ¬ cmpT (rs.getD i zW) (rs.getD (i - 1) zW) < 0

set_option maxHeartbeats 8000000 in
set_option maxRecDepth 100000 in
theorem ok_calls (B : Nat) (n : Int) (A1 : Option Addr) (c1 : Nat) (sz : List Int) (A2 : Option Addr) (c2 : Nat) (rs : List Row) (W : World) (hT : TabBox W B n A1 c1 sz A2 c2 rs) (r : Bool) (hr : r = true ↔ TabOk n sz rs) :
    Calls Try.prog 88 #[.pointer (some ⟨B, 0, none⟩)] W fun e w' => e = .returned (.bool r) ∧ ∃ q, w' = W.drewN q := by
  have hu := Try.underlying27
  have hu2 := Try.underlying87
  have HSH := fun W hT => shape_calls B n A1 c1 sz A2 c2 rs W hT
  have HT := Aside0.mk hT
  have HR := Aside0.mk hr
  clear hr
  by_cases hs : ShapeOk n sz rs
  · rw [decide_eq_true hs] at HSH
    have hl : 0 < rs.length := by have := hs.2.2.1; omega
    have hlr : rs.length ≤ 700 := by have := hs.2.2.1; omega
    have HS := Aside0.mk hs
    obtain ⟨b, o, rfl, hrow⟩ := rows_at hT.2.2.2.2.2.1 hl
    have HROW := Aside0.mk hrow
    have HCAP := Aside0.mk hT.2.2.2.2.2.2
    clear hs hT hrow
    go_enter Try.func88, Try.ntmps88
    go_wp2_with (first | (go_at_call 62; (with_reducible refine (HSH _ (by first | exact HT.out | exact HT.out.drawn ⟨_, rfl⟩)).mono ?_); rintro e w' ⟨rfl, q1, rfl⟩))
    clear HSH
    go_loopg [3] rs.length (fun gg v3 wr => ∃ i : Nat, 1 ≤ i ∧ i ≤ rs.length ∧ rs.length - i ≤ gg ∧ v3 = .int .i64 (i : Int) ∧ Aside0 (∃ q, wr = W.drewN q) ∧ Aside0 (∀ j, j < i → 0 < j → ¬ cmpT (rs.getD j zW) (rs.getD (j - 1) zW) < 0))
    case atStart => exact ⟨1, Nat.le_refl _, hl, by omega, rfl, ⟨⟨_, rfl⟩⟩, ⟨fun j h1 h2 => by omega⟩⟩
    case round =>
      obtain ⟨i, hi1, hi, hgg, rfl, HQ, HA⟩ := hrel
      have HB := Aside0.mk (HT.out.drawn HQ.out)
      have b2 := HB.out.2.2.1
      by_cases hlt : i < rs.length
      · have hltz : (i : Int) < (rs.length : Int) := by omega
        obtain ⟨j, rfl⟩ : ∃ j, i = j + 1 := ⟨i - 1, by omega⟩
        have hb3 : ((j : Nat) : Int) < (rs.length : Int) := by omega
        have hb8 : ((j + 1 : Nat) : Int) - 1 = (j : Int) := by omega
        have hb7 : IntKind.i64.wrap (j : Int) = (j : Int) := IntWalk.i64_in _ (by omega)
        have HRL := fun q => rowLess_calls (rs.getD (j + 1) zW) (rs.getD j zW) b (o + (j + 1) * 2) b (o + j * 2) (wr.drewN q) (by obtain ⟨q0, e⟩ := HQ.out; rw [e]; exact ((HROW.out (j + 1) hlt).drewN q0).drewN q) (by obtain ⟨q0, e⟩ := HQ.out; rw [e]; exact ((HROW.out j (by omega)).drewN q0).drewN q)
        have HST := Aside0.mk (show (¬ cmpT (rs.getD (j + 1) zW) (rs.getD j zW) < 0) → ∀ m, m < j + 1 + 1 → 0 < m → ¬ cmpT (rs.getD m zW) (rs.getD (m - 1) zW) < 0 from fun h m h1 h2 => by
          by_cases e : m = j + 1
          · subst e; exact h
          · exact HA.out m (by omega) h2)
        have HNO := Aside0.mk (show cmpT (rs.getD (j + 1) zW) (rs.getD j zW) < 0 → r = false from fun h => by
          cases hr : r with
          | false => rfl
          | true => exact absurd h ((HR.out.1 hr).2 (j + 1) hlt (by omega)))
        by_cases hc : cmpT (rs.getD (j + 1) zW) (rs.getD j zW) < 0
        · rw [decide_eq_true hc] at HRL
          have HN := Aside0.mk (HNO.out hc)
          clear hc HNO HST
          go_wp2_with (fail)
          go_quiet (first | (go_at_call 138; exact Calls.quiet_of (HRL _)))
          go_wp2_with (fail)
          go_ret
          exact ⟨by rw [HN.out]; rfl, drawn_then HQ.out rfl⟩
        · rw [decide_eq_false hc] at HRL
          have HC := Aside0.mk (HST.out hc)
          clear hc HNO HST
          go_wp2_with (fail)
          go_quiet (first | (go_at_call 138; exact Calls.quiet_of (HRL _)))
          go_wp2_with (fail)
          go_roundg (rs.length - (j + 1 + 1))
          case measure => omega
          case rel => exact ⟨j + 1 + 1, by omega, by omega, by omega, by go_num, ⟨drawn_then HQ.out rfl⟩, HC⟩
      · have hltz : ¬ (i : Int) < (rs.length : Int) := by omega
        obtain rfl : i = rs.length := by omega
        have HYES := Aside0.mk (show r = true from HR.out.2 ⟨HS.out, HA.out⟩)
        go_wp2_with (fail)
        go_ret
        exact ⟨by rw [HYES.out]; rfl, HQ.out⟩
  · rw [decide_eq_false hs] at HSH
    have HNO := Aside0.mk (show r = false by
      cases h : r with
      | false => rfl
      | true => exact absurd (HR.out.1 h).1 hs)
    clear hs hT
    go_enter Try.func88, Try.ntmps88
    go_wp2_with (first | (go_at_call 62; (with_reducible refine (HSH _ (by first | exact HT.out | exact HT.out.drawn ⟨_, rfl⟩)).mono ?_); rintro e w' ⟨rfl, q1, rfl⟩))
    go_ret
    exact ⟨by rw [HNO.out]; rfl, _, rfl⟩

end Go.Proofs.Ytdahdeohmbadhaa.TOk
