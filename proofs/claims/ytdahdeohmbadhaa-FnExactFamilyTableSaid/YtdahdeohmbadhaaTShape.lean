/- Contract of the reference's l06Shape: whether secrets, sizes and rows have the form of a table. Contract of the reference's l06Ok: whether a table is valid. -/
import Derived.Test.YtdahdeohmbadhaaTLess
import Derived.Test.YtdahdeohmbadhaaGx5
import Derived.Test.YtdahdeohmbadhaaGx5
import Derived.BigQuiet
import Derived.Deep.QuietTactic
import Derived.Outline
namespace Go.Proofs.Ytdahdeohmbadhaa.TShape
open Go.RowKit Go.Lib Go.Proofs Go.Proofs.YtdahdeohmbadhaaW.PrintWords Go.Proofs.YtdahdeohmbadhaaW.PrintWords.Kd Go.Proofs.YtdahdeohmbadhaaW.PrintLast Go.Proofs.YtdahdeohmbadhaaW.PrintMore Go.Proofs.Ytdahdeohmbadhaa.G Go.Proofs.Ytdahdeohmbadhaa.Fam Go.Proofs.Ytdahdeohmbadhaa.Loops Go.Proofs.Ytdahdeohmbadhaa.MarkT Go.Proofs.Ytdahdeohmbadhaa.TLess
set_option linter.unusedVariables false
set_option linter.unusedSimpArgs false

theorem in_is (a b c : Int) : spec_l00In.f a b c = some (decide (b ≤ a ∧ a ≤ c)) := by
 unfold spec_l00In.f
 by_cases h : a ≥ b
 ·
  rw [if_pos h]; congr 1; apply decide_eq_decide.2; omega
 ·
  rw [if_neg h]; congr 1; symm; apply decide_eq_false; omega
theorem in_calls (a b c : Int) (W : World) : Calls Try.prog 95 #[.int .i64 a, .int .i64 b, .int .i64 c] W fun e w' => e = .returned (.bool (decide (b ≤ a ∧ a ≤ c))) ∧ ∃ q, w' = W.drewN q :=
 (spec_l00In.calls a b c _ W (in_is a b c)).mono fun e w' ⟨he, hd⟩ => ⟨he, hd.out⟩
/-- Each number is at least 0 and less than its limit. -/
def belowL : List Int → List Int → Bool
 | a :: l, b :: m => decide (0 ≤ a ∧ a ≤ wrap64 (b - 1)) && belowL l m
 | _, _ => true
def BelowOk (l lim : List Int) : Prop := l.length = lim.length ∧ belowL l lim = true
instance (l lim : List Int) : Decidable (BelowOk l lim) := by unfold BelowOk; exact inferInstance
theorem below_loop (l lim : List Int) (hl : l.length = lim.length) (hb : l.length ≤ 9223372036854775807) : ∀ (d i : Nat), i ≤ l.length → l.length - i = d → Ev (fun k => spec_l06Below.l0 k l lim (i : Int)) (belowL (l.drop i) (lim.drop i)) := by
 intro d
 induction d with
 | zero =>
  intro i hi hd
  rw [List.drop_eq_nil_of_le (show l.length ≤ i by omega)]
  exact Ev.step (f := fun _ => some true) (fun k => by simp only [spec_l06Below.l0]; rw [if_neg (by omega)]) (Ev.now _)
 | succ d ih =>
  intro i hi hd
  have h1 := ih (i + 1) (by omega) (by omega)
  have hia : i < l.length := by omega
  have hib : i < lim.length := by omega
  have hw : wrap64 ((i : Int) + 1) = ((i + 1 : Nat) : Int) := by rw [wrap_id (by omega) (by omega)]; omega
  have hra : l.getD i 0 = l[i] := by simp [List.getD, hia]
  have hrb : lim.getD i 0 = lim[i] := by simp [List.getD, hib]
  rw [List.drop_eq_getElem_cons hia, List.drop_eq_getElem_cons hib]
  by_cases h : 0 ≤ l[i] ∧ l[i] ≤ wrap64 (lim[i] - 1)
  ·
   rw [show belowL (l[i] :: l.drop (i + 1)) (lim[i] :: lim.drop (i + 1)) = belowL (l.drop (i + 1)) (lim.drop (i + 1)) by simp only [belowL, decide_eq_true h, Bool.true_and]]
   refine Ev.step (fun k => ?_) h1
   simp only [spec_l06Below.l0]
   rw [if_pos (by omega), if_pos (by omega), if_pos (by omega), rd_nat, rd_nat, hra, hrb, in_is, decide_eq_true h]
   simp only [Option.bind_some, if_true]
   rw [hw]
  ·
   rw [show belowL (l[i] :: l.drop (i + 1)) (lim[i] :: lim.drop (i + 1)) = false by simp only [belowL, decide_eq_false h, Bool.false_and]]
   refine Ev.step (f := fun _ => some false) (fun k => ?_) (Ev.now _)
   simp only [spec_l06Below.l0]
   rw [if_pos (by omega), if_pos (by omega), if_pos (by omega), rd_nat, rd_nat, hra, hrb, in_is, decide_eq_false h]
   simp
theorem below_is (l lim : List Int) (hb : l.length ≤ 9223372036854775807) : Ev (fun k => spec_l06Below.f k l lim) (decide (BelowOk l lim)) := by
 unfold spec_l06Below.f
 by_cases hl : l.length = lim.length
 ·
  have h := below_loop l lim hl hb l.length 0 (Nat.zero_le _) rfl
  rw [List.drop_zero, List.drop_zero] at h
  have e : decide (BelowOk l lim) = belowL l lim := by
   cases hq : belowL l lim with
   | true => exact decide_eq_true ⟨hl, hq⟩
   | false => exact decide_eq_false (fun h2 => by rw [h2.2] at hq; cases hq)
  rw [e]
  exact h.congr (fun k => by rw [if_pos (by omega)]; rfl)
 ·
  rw [decide_eq_false (fun h => hl h.1)]
  exact Ev.congr (f := fun _ => some false) (fun k => by rw [if_neg (by omega)]) (Ev.now _)
theorem below_calls (A A' : Option Addr) (c c' : Nat) (a b : List Int) (W : World) (ha : Kd.C (Kd.int .i64) W A a.length a) (hac : a.length ≤ c) (hb : Kd.C (Kd.int .i64) W A' b.length b) (hbc : b.length ≤ c') :
  Calls Try.prog 137 #[.slice A a.length c, .slice A' b.length c'] W fun e w' => e = .returned (.bool (decide (BelowOk a b))) ∧ ∃ q, w' = W.drewN q := by
 obtain ⟨k, hk⟩ := (below_is a b ha.2.1).rounds
 exact (spec_l06Below.calls k A c a A' c' b _ W ha hac hb hbc hk).mono fun e w' ⟨he, hd⟩ => ⟨he, hd.out⟩

/-- A row that a table may have. -/
def RowOk (n : Int) (sz : List Int) (r : Row) : Prop := (0 ≤ r.f0 ∧ r.f0 ≤ wrap64 (n - 1)) ∧ BelowOk r.f1 sz
instance (n : Int) (sz : List Int) (r : Row) : Decidable (RowOk n sz r) := by unfold RowOk; exact inferInstance
/-- The form of a table, its rows in any order. -/
def ShapeOk (n : Int) (sz : List Int) (rs : List Row) : Prop := (1 ≤ n ∧ n ≤ 64) ∧ (1 ≤ sz.length ∧ sz.length ≤ 7) ∧ (1 ≤ rs.length ∧ rs.length ≤ 700) ∧ (∀ x ∈ sz, 1 ≤ x ∧ x ≤ 64) ∧ ∀ r ∈ rs, RowOk n sz r
instance (n : Int) (sz : List Int) (rs : List Row) : Decidable (ShapeOk n sz rs) := by unfold ShapeOk; exact inferInstance

/-- A table in a box. -/
def TabBox (W : World) (B : Nat) (n : Int) (A1 : Option Addr) (c1 : Nat) (sz : List Int) (A2 : Option Addr) (c2 : Nat) (rs : List Row) : Prop :=
 W.cell? ⟨B, 0, none⟩ = some (.int .i64 n) ∧ W.cell? ⟨B, 1, none⟩ = some (.slice A1 sz.length c1) ∧ W.cell? ⟨B, 2, none⟩ = some (.slice A2 rs.length c2) ∧ Kd.C (Kd.int .i64) W A1 sz.length sz ∧ sz.length ≤ c1 ∧ Kd.C dW W A2 rs.length rs ∧ rs.length ≤ c2
theorem TabBox.later {W W' : World} {B : Nat} {n : Int} {A1 : Option Addr} {c1 : Nat} {sz : List Int} {A2 : Option Addr} {c2 : Nat} {rs : List Row} (h : TabBox W B n A1 c1 sz A2 c2 rs) (hb : Below W.heap.size W W') : TabBox W' B n A1 c1 sz A2 c2 rs :=
 ⟨pw_cell_below hb h.1, pw_cell_below hb h.2.1, pw_cell_below hb h.2.2.1, Kd.C_below h.2.2.2.1 hb, h.2.2.2.2.1, Kd.C_below h.2.2.2.2.2.1 hb, h.2.2.2.2.2.2⟩

theorem TabBox.drawn {W W' : World} {B : Nat} {n : Int} {A1 : Option Addr} {c1 : Nat} {sz : List Int} {A2 : Option Addr} {c2 : Nat} {rs : List Row} (h : TabBox W B n A1 c1 sz A2 c2 rs) (hq : ∃ q, W' = W.drewN q) : TabBox W' B n A1 c1 sz A2 c2 rs := by
 obtain ⟨q, rfl⟩ := hq
 exact ⟨h.1, h.2.1, h.2.2.1, Kd.C_drewN h.2.2.2.1 q, h.2.2.2.2.1, Kd.C_drewN h.2.2.2.2.2.1 q, h.2.2.2.2.2.2⟩
theorem int_cell {W : World} {A : Option Addr} {l : List Int} (h : Kd.C (Kd.int .i64) W A l.length l) {i : Nat} (hi : i < l.length) : ∃ ad, A = some ad ∧ W.cell? (ad.add i) = some (.int .i64 (l.getD i 0)) := by
 obtain ⟨ad, e, hcell⟩ := h.2.2 (by omega)
 obtain ⟨cs, hcl, hK, hu⟩ := hcell i l[i] (List.getElem?_eq_getElem hi)
 have hK' : cs = [.int .i64 l[i]] := hK
 subst hK'
 have := hu 0 _ rfl
 rw [show (Kd.int .i64).sz = 1 from rfl, Nat.mul_one, Nat.add_zero] at this
 refine ⟨ad, e, ?_⟩
 rw [this]
 simp [List.getD, hi]
theorem drawn_then {W w w' : World} {m : Nat} (h : ∃ q, w = W.drewN q) (h' : w' = w.drewN m) : ∃ q, w' = W.drewN q := by
 obtain ⟨q, rfl⟩ := h
 exact ⟨_, by rw [h', World.drewN_drewN]⟩
theorem take_all {α : Type} {P : α → Prop} {l : List α} {i : Nat} (h : i < l.length) (h1 : ∀ x ∈ l.take i, P x) (h2 : P l[i]) : ∀ x ∈ l.take (i + 1), P x := by
 intro x hx
 rw [List.take_succ_eq_append_getElem h, List.mem_append, List.mem_singleton] at hx
 rcases hx with hx | rfl
 ·
  exact h1 x hx
 ·
  exact h2
set_option maxHeartbeats 8000000 in
set_option maxRecDepth 100000 in
theorem shape_calls (B : Nat) (n : Int) (A1 : Option Addr) (c1 : Nat) (sz : List Int) (A2 : Option Addr) (c2 : Nat) (rs : List Row) (W : World) (hT : TabBox W B n A1 c1 sz A2 c2 rs) :
  Calls Try.prog 62 #[.pointer (some ⟨B, 0, none⟩)] W fun e w' => e = .returned (.bool (decide (ShapeOk n sz rs))) ∧ ∃ q, w' = W.drewN q := by
 have hu := Try.underlying27
 have hu2 := Try.underlying87
 have HI1 := fun W => in_calls n 1 64 W
 have HI2 := fun W => in_calls (sz.length : Int) 1 7 W
 have HI3 := fun W => in_calls (rs.length : Int) 1 700 W
 have HT := Aside0.mk hT
 have b0 := hT.1
 have b1 := hT.2.1
 have b2 := hT.2.2.1
 clear hT
 by_cases h1 : 1 ≤ n ∧ n ≤ 64
 ·
  rw [decide_eq_true h1] at HI1
  by_cases h2 : (1 : Int) ≤ (sz.length : Int) ∧ (sz.length : Int) ≤ 7
  ·
   rw [decide_eq_true h2] at HI2
   by_cases h3 : (1 : Int) ≤ (rs.length : Int) ∧ (rs.length : Int) ≤ 700
   ·
    rw [decide_eq_true h3] at HI3
    have hlz : sz.length ≤ 7 := by omega
    have hlr : rs.length ≤ 700 := by omega
    have HS := Aside0.mk (show (∀ x ∈ sz, 1 ≤ x ∧ x ≤ 64) → (∀ r ∈ rs, RowOk n sz r) → ShapeOk n sz rs from fun h4 h5 => ⟨h1, ⟨by omega, by omega⟩, ⟨by omega, by omega⟩, h4, h5⟩)
    have hn1 : wrap64 (n - 1) = n - 1 := wrap_id (by omega) (by omega)
    clear h1 h2 h3
    go_enter Try.func62, Try.ntmps62
    go_wp2_with (first | (go_at_call 95; first | ((with_reducible refine (HI1 _).mono ?_); rintro e w' ⟨rfl, q1, rfl⟩) | ((with_reducible refine (HI2 _).mono ?_); rintro e w' ⟨rfl, q2, rfl⟩) | ((with_reducible refine (HI3 _).mono ?_); rintro e w' ⟨rfl, q3, rfl⟩)))
    clear HI1 HI2 HI3 b0 b1 b2
    go_loopg [3] sz.length (fun gg v3 wr => ∃ i : Nat, i ≤ sz.length ∧ sz.length - i ≤ gg ∧ v3 = .int .i64 (i : Int) ∧ Aside0 (∃ q, wr = W.drewN q) ∧ Aside0 (∀ x ∈ sz.take i, 1 ≤ x ∧ x ≤ 64))
    case atStart => exact ⟨0, Nat.zero_le _, by omega, rfl, ⟨⟨_, rfl⟩⟩, ⟨fun x hx => by simp at hx⟩⟩
    case round =>
     obtain ⟨i, hi, hgg, rfl, HQ, HA⟩ := hrel
     have HB := Aside0.mk (HT.out.drawn HQ.out)
     have b1 := HB.out.2.1
     by_cases hlt : i < sz.length
     ·
      have hltz : (i : Int) < (sz.length : Int) := by omega
      obtain ⟨ad, rfl, hx⟩ := int_cell HB.out.2.2.2.1 hlt
      have HIX := fun W => in_calls (sz.getD i 0) 1 64 W
      have HG := Aside0.mk (show sz.getD i 0 = sz[i] by simp [List.getD, hlt])
      by_cases h : 1 ≤ sz.getD i 0 ∧ sz.getD i 0 ≤ 64
      ·
       rw [decide_eq_true h] at HIX
       have HH := Aside0.mk h
       clear h
       generalize sz.getD i 0 = x at *
       go_wp2_with (first | (go_at_call 95; (with_reducible refine (HIX _).mono ?_); rintro e w' ⟨rfl, q1, rfl⟩))
       go_roundg (sz.length - (i + 1))
       case measure => omega
       case rel => exact ⟨i + 1, by omega, by omega, by go_num, ⟨drawn_then HQ.out rfl⟩, ⟨take_all hlt HA.out (by rw [← HG.out]; exact HH.out)⟩⟩
      ·
       rw [decide_eq_false h] at HIX
       have HH := Aside0.mk h
       have HNO := Aside0.mk (decide_eq_false (show ¬ ShapeOk n sz rs from fun h4 => h (by rw [HG.out]; exact h4.2.2.2.1 _ (List.getElem_mem hlt))))
       clear h
       generalize sz.getD i 0 = x at *
       go_wp2_with (first | (go_at_call 95; (with_reducible refine (HIX _).mono ?_); rintro e w' ⟨rfl, q1, rfl⟩))
       go_ret
       exact ⟨by rw [HNO.out]; rfl, drawn_then HQ.out rfl⟩
     ·
      have hltz : ¬ (i : Int) < (sz.length : Int) := by omega
      obtain rfl : i = sz.length := by omega
      rw [List.take_length] at HA
      go_wp2_with (fail)
      clear b1
      go_loopg [4] rs.length (fun gg v4 w2 => ∃ j : Nat, j ≤ rs.length ∧ rs.length - j ≤ gg ∧ v4 = .int .i64 (j : Int) ∧ Aside0 (∃ q, w2 = W.drewN q) ∧ Aside0 (∀ r ∈ rs.take j, RowOk n sz r))
      case atStart => exact ⟨0, Nat.zero_le _, by omega, rfl, HQ, ⟨fun x hx => by simp at hx⟩⟩
      case round =>
       clear HQ HB
       obtain ⟨j, hj, hgg2, rfl, HQ, HA2⟩ := hrel
       have HB := Aside0.mk (HT.out.drawn HQ.out)
       have b0 := HB.out.1
       have b1 := HB.out.2.1
       have b2 := HB.out.2.2.1
       by_cases hlt2 : j < rs.length
       ·
        have hltz2 : (j : Int) < (rs.length : Int) := by omega
        obtain ⟨ad, A3, c3, rfl, hx0, hx1, hl3, hC3⟩ := at_T87 HB.out.2.2.2.2.2.1 (j : Int) (by omega) (by omega)
        rw [show rd_T87 rs (j : Int) = rs.getD j zW by simp [rd_T87]] at hx0 hx1 hl3 hC3
        rw [Int.toNat_natCast] at hx0 hx1
        have HG := Aside0.mk (show rs.getD j zW = rs[j] by simp [List.getD, hlt2])
        have HIA := fun W => in_calls (rs.getD j zW).f0 0 (n - 1) W
        have HBL := fun W h1 h2 => below_calls A3 A1 c3 c1 (rs.getD j zW).f1 sz W h1 hl3 h2 HB.out.2.2.2.2.1
        have HC3 := Aside0.mk hC3
        have HNO := Aside0.mk (fun (h : ¬ RowOk n sz (rs.getD j zW)) => decide_eq_false (show ¬ ShapeOk n sz rs from fun h4 => h (by rw [HG.out]; exact h4.2.2.2.2 _ (List.getElem_mem hlt2))))
        clear hC3
        by_cases hA : 0 ≤ (rs.getD j zW).f0 ∧ (rs.getD j zW).f0 ≤ n - 1
        ·
         rw [decide_eq_true hA] at HIA
         by_cases hBo : BelowOk (rs.getD j zW).f1 sz
         ·
          rw [decide_eq_true hBo] at HBL
          have HOK := Aside0.mk (show RowOk n sz (rs.getD j zW) from ⟨by rw [hn1]; exact hA, hBo⟩)
          clear hA hBo HNO
          generalize rs.getD j zW = r at *
          go_wp2_with (fail)
          go_quiet (first | (go_at_call 95; exact Calls.quiet_of (HIA _)) | (go_at_call 137; exact Calls.quiet_of (HBL _ (Kd.C_drewN HC3.out _) (Kd.C_drewN HB.out.2.2.2.1 _))))
          go_wp2_with (fail)
          go_roundg (rs.length - (j + 1))
          case measure => omega
          case rel => exact ⟨j + 1, by omega, by omega, by go_num, ⟨drawn_then HQ.out rfl⟩, ⟨take_all hlt2 HA2.out (by rw [← HG.out]; exact HOK.out)⟩⟩
         ·
          rw [decide_eq_false hBo] at HBL
          have HN := Aside0.mk (HNO.out (fun h => hBo h.2))
          clear hA hBo HNO
          generalize rs.getD j zW = r at *
          go_wp2_with (fail)
          go_quiet (first | (go_at_call 95; exact Calls.quiet_of (HIA _)) | (go_at_call 137; exact Calls.quiet_of (HBL _ (Kd.C_drewN HC3.out _) (Kd.C_drewN HB.out.2.2.2.1 _))))
          go_wp2_with (fail)
          go_ret
          exact ⟨by rw [HN.out]; rfl, drawn_then HQ.out rfl⟩
        ·
         rw [decide_eq_false hA] at HIA
         have HN := Aside0.mk (HNO.out (fun h => hA (by have h1 := h.1; rwa [hn1] at h1)))
         clear hA HNO HBL
         generalize rs.getD j zW = r at *
         go_wp2_with (fail)
         go_quiet (first | (go_at_call 95; exact Calls.quiet_of (HIA _)))
         go_wp2_with (fail)
         go_ret
         exact ⟨by rw [HN.out]; rfl, drawn_then HQ.out rfl⟩
       ·
        have hltz2 : ¬ (j : Int) < (rs.length : Int) := by omega
        obtain rfl : j = rs.length := by omega
        rw [List.take_length] at HA2
        have HYES := Aside0.mk (decide_eq_true (HS.out HA.out HA2.out))
        go_wp2_with (fail)
        go_ret
        exact ⟨by rw [HYES.out]; rfl, HQ.out⟩
   ·
    rw [decide_eq_false h3] at HI3
    rw [decide_eq_false (show ¬ ShapeOk n sz rs from fun h => h3 (by have := h.2.2.1; omega))]
    clear h1 h2 h3 HT
    go_enter Try.func62, Try.ntmps62
    go_wp2_with (first | (go_at_call 95; first | ((with_reducible refine (HI1 _).mono ?_); rintro e w' ⟨rfl, q1, rfl⟩) | ((with_reducible refine (HI2 _).mono ?_); rintro e w' ⟨rfl, q2, rfl⟩) | ((with_reducible refine (HI3 _).mono ?_); rintro e w' ⟨rfl, q3, rfl⟩)))
    go_ret
    exact ⟨rfl, _, rfl⟩
  ·
   rw [decide_eq_false h2] at HI2
   rw [decide_eq_false (show ¬ ShapeOk n sz rs from fun h => h2 (by have := h.2.1; omega))]
   clear h1 h2 HT
   go_enter Try.func62, Try.ntmps62
   go_wp2_with (first | (go_at_call 95; first | ((with_reducible refine (HI1 _).mono ?_); rintro e w' ⟨rfl, q1, rfl⟩) | ((with_reducible refine (HI2 _).mono ?_); rintro e w' ⟨rfl, q2, rfl⟩)))
   go_ret
   exact ⟨rfl, _, rfl⟩
 ·
  rw [decide_eq_false h1] at HI1
  rw [decide_eq_false (show ¬ ShapeOk n sz rs from fun h => h1 h.1)]
  clear h1 HT
  go_enter Try.func62, Try.ntmps62
  go_wp2_with (first | (go_at_call 95; refine (HI1 _).mono ?_; rintro e w' ⟨rfl, q1, rfl⟩))
  go_ret
  exact ⟨rfl, _, rfl⟩

end Go.Proofs.Ytdahdeohmbadhaa.TShape

namespace Go.Proofs.Ytdahdeohmbadhaa.TOk
open Go.RowKit Go.Lib Go.Proofs Go.Proofs.YtdahdeohmbadhaaW.PrintWords Go.Proofs.YtdahdeohmbadhaaW.PrintWords.Kd Go.Proofs.YtdahdeohmbadhaaW.PrintLast Go.Proofs.YtdahdeohmbadhaaW.PrintMore Go.Proofs.Ytdahdeohmbadhaa.G Go.Proofs.Ytdahdeohmbadhaa.Fam Go.Proofs.Ytdahdeohmbadhaa.Loops Go.Proofs.Ytdahdeohmbadhaa.MarkT Go.Proofs.Ytdahdeohmbadhaa.TCmp Go.Proofs.Ytdahdeohmbadhaa.TLess Go.Proofs.Ytdahdeohmbadhaa.TShape
set_option linter.unusedVariables false
set_option linter.unusedSimpArgs false

theorem rows_at {W : World} {A : Option Addr} {rs : List Row} (h : Kd.C dW W A rs.length rs) (hpos : 0 < rs.length) : ∃ b o, A = some ⟨b, o, none⟩ ∧ ∀ i, i < rs.length → RowAt W b (o + i * 2) (rs.getD i zW) := by
 have hat := fun (i : Nat) (hi : i < rs.length) => at_T87 h (i : Int) (by omega) (by omega)
 obtain ⟨ad, A3, c3, rfl, hx0, _, _, _⟩ := hat 0 hpos
 obtain ⟨b, o, sub⟩ := ad
 have hsub : sub = none := by
  cases sub with
  | none => rfl
  | some s =>
   exfalso
   simp [World.cell?, Addr.add] at hx0
   split at hx0 <;> cases hx0
 subst hsub
 have hadd : ∀ j, (⟨b, o, none⟩ : Addr).add j = ⟨b, o + j, none⟩ := fun j => by unfold Addr.add; split <;> simp_all
 refine ⟨b, o, rfl, fun i hi => ?_⟩
 obtain ⟨ad, A4, c4, e, h0, h1, h2, h3⟩ := hat i hi
 injection e with e
 subst e
 rw [show rd_T87 rs (i : Int) = rs.getD i zW by simp [rd_T87]] at h0 h1 h2 h3
 rw [Int.toNat_natCast, hadd] at h0 h1
 exact ⟨h0, A4, c4, h1, h2, h3⟩
/-- A valid table. -/
def TabOk (n : Int) (sz : List Int) (rs : List Row) : Prop := ShapeOk n sz rs ∧ ∀ i, i < rs.length → 0 < i → ¬ cmpT (rs.getD i zW) (rs.getD (i - 1) zW) < 0

set_option maxHeartbeats 8000000 in
set_option maxRecDepth 100000 in
theorem ok_calls (B : Nat) (n : Int) (A1 : Option Addr) (c1 : Nat) (sz : List Int) (A2 : Option Addr) (c2 : Nat) (rs : List Row) (W : World) (hT : TabBox W B n A1 c1 sz A2 c2 rs) (r : Bool) (hr : r = true ↔ TabOk n sz rs) :
  Calls Try.prog 88 #[.pointer (some ⟨B, 0, none⟩)] W fun e w' => e = .returned (.bool r) ∧ ∃ q, w' = W.drewN q := by
 have hu := Try.underlying27
 have hu2 := Try.underlying87
 have HSH := fun W hT => shape_calls B n A1 c1 sz A2 c2 rs W hT
 have HT := Aside0.mk hT
 have HR := Aside0.mk hr
 clear hr
 by_cases hs : ShapeOk n sz rs
 ·
  rw [decide_eq_true hs] at HSH
  have hl : 0 < rs.length := by have := hs.2.2.1; omega
  have hlr : rs.length ≤ 700 := by have := hs.2.2.1; omega
  have HS := Aside0.mk hs
  obtain ⟨b, o, rfl, hrow⟩ := rows_at hT.2.2.2.2.2.1 hl
  have HROW := Aside0.mk hrow
  have HCAP := Aside0.mk hT.2.2.2.2.2.2
  clear hs hT hrow
  go_enter Try.func88, Try.ntmps88
  go_wp2_with (first | (go_at_call 62; (with_reducible refine (HSH _ (by first | exact HT.out | exact HT.out.drawn ⟨_, rfl⟩)).mono ?_); rintro e w' ⟨rfl, q1, rfl⟩))
  clear HSH
  go_loopg [3] rs.length (fun gg v3 wr => ∃ i : Nat, 1 ≤ i ∧ i ≤ rs.length ∧ rs.length - i ≤ gg ∧ v3 = .int .i64 (i : Int) ∧ Aside0 (∃ q, wr = W.drewN q) ∧ Aside0 (∀ j, j < i → 0 < j → ¬ cmpT (rs.getD j zW) (rs.getD (j - 1) zW) < 0))
  case atStart => exact ⟨1, Nat.le_refl _, hl, by omega, rfl, ⟨⟨_, rfl⟩⟩, ⟨fun j h1 h2 => by omega⟩⟩
  case round =>
   obtain ⟨i, hi1, hi, hgg, rfl, HQ, HA⟩ := hrel
   have HB := Aside0.mk (HT.out.drawn HQ.out)
   have b2 := HB.out.2.2.1
   by_cases hlt : i < rs.length
   ·
    have hltz : (i : Int) < (rs.length : Int) := by omega
    obtain ⟨j, rfl⟩ : ∃ j, i = j + 1 := ⟨i - 1, by omega⟩
    have hb3 : ((j : Nat) : Int) < (rs.length : Int) := by omega
    have hb8 : ((j + 1 : Nat) : Int) - 1 = (j : Int) := by omega
    have hb7 : IntKind.i64.wrap (j : Int) = (j : Int) := IntWalk.i64_in _ (by omega)
    have HRL := fun q => rowLess_calls (rs.getD (j + 1) zW) (rs.getD j zW) b (o + (j + 1) * 2) b (o + j * 2) (wr.drewN q) (by obtain ⟨q0, e⟩ := HQ.out; rw [e]; exact ((HROW.out (j + 1) hlt).drewN q0).drewN q) (by obtain ⟨q0, e⟩ := HQ.out; rw [e]; exact ((HROW.out j (by omega)).drewN q0).drewN q)
    have HST := Aside0.mk (show (¬ cmpT (rs.getD (j + 1) zW) (rs.getD j zW) < 0) → ∀ m, m < j + 1 + 1 → 0 < m → ¬ cmpT (rs.getD m zW) (rs.getD (m - 1) zW) < 0 from fun h m h1 h2 => by
     by_cases e : m = j + 1
     ·
      subst e; exact h
     ·
      exact HA.out m (by omega) h2)
    have HNO := Aside0.mk (show cmpT (rs.getD (j + 1) zW) (rs.getD j zW) < 0 → r = false from fun h => by
     cases hr : r with
     | false => rfl
     | true => exact absurd h ((HR.out.1 hr).2 (j + 1) hlt (by omega)))
    by_cases hc : cmpT (rs.getD (j + 1) zW) (rs.getD j zW) < 0
    ·
     rw [decide_eq_true hc] at HRL
     have HN := Aside0.mk (HNO.out hc)
     clear hc HNO HST
     go_wp2_with (fail)
     go_quiet (first | (go_at_call 138; exact Calls.quiet_of (HRL _)))
     go_wp2_with (fail)
     go_ret
     exact ⟨by rw [HN.out]; rfl, drawn_then HQ.out rfl⟩
    ·
     rw [decide_eq_false hc] at HRL
     have HC := Aside0.mk (HST.out hc)
     clear hc HNO HST
     go_wp2_with (fail)
     go_quiet (first | (go_at_call 138; exact Calls.quiet_of (HRL _)))
     go_wp2_with (fail)
     go_roundg (rs.length - (j + 1 + 1))
     case measure => omega
     case rel => exact ⟨j + 1 + 1, by omega, by omega, by omega, by go_num, ⟨drawn_then HQ.out rfl⟩, HC⟩
   ·
    have hltz : ¬ (i : Int) < (rs.length : Int) := by omega
    obtain rfl : i = rs.length := by omega
    have HYES := Aside0.mk (show r = true from HR.out.2 ⟨HS.out, HA.out⟩)
    go_wp2_with (fail)
    go_ret
    exact ⟨by rw [HYES.out]; rfl, HQ.out⟩
 ·
  rw [decide_eq_false hs] at HSH
  have HNO := Aside0.mk (show r = false by
   cases h : r with
   | false => rfl
   | true => exact absurd (HR.out.1 h).1 hs)
  clear hs hT
  go_enter Try.func88, Try.ntmps88
  go_wp2_with (first | (go_at_call 62; (with_reducible refine (HSH _ (by first | exact HT.out | exact HT.out.drawn ⟨_, rfl⟩)).mono ?_); rintro e w' ⟨rfl, q1, rfl⟩))
  go_ret
  exact ⟨by rw [HNO.out]; rfl, _, rfl⟩

end Go.Proofs.Ytdahdeohmbadhaa.TOk
