/- What the program's ValidTable tells. No program in sight. What the program's gather and the reference's copies tell, in plain words. -/
import Derived.Test.YtdahdeohmbadhaaTShape
import Derived.Test.YtdahdeohmbadhaaGx4
import Derived.Test.YtdahdeohmbadhaaTTail
import Derived.Test.YtdahdeohmbadhaaGx10
namespace Go.Proofs.Ytdahdeohmbadhaa.TValid
open Go.RowKit Go.Proofs.YtdahdeohmbadhaaW.PrintWords Go.Proofs.YtdahdeohmbadhaaW.PrintMore Go.Proofs.Ytdahdeohmbadhaa.G Go.Proofs.Ytdahdeohmbadhaa.Fam Go.Proofs.Ytdahdeohmbadhaa.Loops Go.Proofs.Ytdahdeohmbadhaa.Bits Go.Proofs.Ytdahdeohmbadhaa.MarkT Go.Proofs.Ytdahdeohmbadhaa.TCmp Go.Proofs.Ytdahdeohmbadhaa.TShape Go.Proofs.Ytdahdeohmbadhaa.TOk
set_option linter.unusedVariables false

theorem within_is (a b c : Int) : impl_within.f a b c = some (decide (b ≤ a ∧ a ≤ c)) := by
 unfold impl_within.f
 by_cases h : a ≥ b
 ·
  rw [if_pos h]; congr 1; apply decide_eq_decide.2; omega
 ·
  rw [if_neg h]; congr 1; symm; apply decide_eq_false; omega
theorem cmp_is (a b : Row) (hl : a.f1.length ≤ 9223372036854775807) : Ev (fun k => impl_compareRows.f k a.f0 a.f1 b.f0 b.f1) (cmpT a b) := by
 unfold impl_compareRows.f
 refine Ev.bind (a := if a.f0 < b.f0 then -1 else if b.f0 < a.f0 then 1 else 0) ⟨0, fun k _ => compare_int a.f0 b.f0⟩ ?_
 refine Ev.bind (a := cmpL a.f1 b.f1) ⟨a.f1.length + 1, fun k hk => compare_is _ _ k hl (by omega)⟩ ?_
 refine Ev.bind (a := cmpT a b) ?_ (Ev.now _)
 have h := Ev.of (g := fun k => cmp_Or_int.f k [if a.f0 < b.f0 then -1 else if b.f0 < a.f0 then 1 else 0, cmpL a.f1 b.f1]) (fun k => cmp_Or_int.mono _ k) (or_is _ _)
 have e : (if (if a.f0 < b.f0 then -1 else if b.f0 < a.f0 then 1 else 0) = (0 : Int) then cmpL a.f1 b.f1 else (if a.f0 < b.f0 then -1 else if b.f0 < a.f0 then 1 else 0)) = cmpT a b := by
  unfold cmpT
  by_cases e1 : a.f0 < b.f0
  ·
   rw [if_pos e1, if_pos e1, if_neg (by omega)]
  ·
   rw [if_neg e1, if_neg e1]
   by_cases e2 : b.f0 < a.f0
   ·
    rw [if_pos e2, if_pos e2, if_neg (by omega)]
   ·
    rw [if_neg e2, if_neg e2, if_pos rfl]
 rwa [e] at h
theorem rdR (rs : List Row) (i : Nat) : rd_T87 rs (i : Int) = rs.getD i zW := by simp [rd_T87]
/-- Row number i is right, and not less than the one ahead of it. -/
def RowP (n : Int) (sz : List Int) (rs : List Row) (i : Nat) : Prop := RowOk n sz (rs.getD i zW) ∧ (0 < i → ¬ cmpT (rs.getD i zW) (rs.getD (i - 1) zW) < 0)
theorem rows_loop (n : Int) (hn : 1 ≤ n ∧ n ≤ 64) (sz : List Int) (hz : sz.length ≤ 7) (rs : List Row) (hl : rs.length ≤ 700) (hg : ∀ r ∈ rs, r.f1.length ≤ 9223372036854775807) : ∀ (d i : Nat), i ≤ rs.length → rs.length - i = d →
  ∃ r, Ev (fun k => impl_ValidTable.l1 k rs (rs.length : Int) (i : Int) n sz rs) r ∧ (r = true ↔ ∀ j, i ≤ j → j < rs.length → RowP n sz rs j) := by
 intro d
 induction d with
 | zero =>
  intro i hi hd
  exact ⟨true, Ev.step (f := fun _ => some true) (fun k => by simp only [impl_ValidTable.l1]; rw [if_neg (by omega)]) (Ev.now _), ⟨fun _ j h1 h2 => by omega, fun _ => rfl⟩⟩
 | succ d ih =>
  intro i hi hd
  have hlt : i < rs.length := by omega
  obtain ⟨r1, hE, hr⟩ := ih (i + 1) (by omega) (by omega)
  have hgi : (rs.getD i zW).f1.length ≤ 9223372036854775807 := by rw [show rs.getD i zW = rs[i] by simp [List.getD, hlt]]; exact hg _ (List.getElem_mem _)
  have hw : wrap64 ((i : Int) + 1) = ((i + 1 : Nat) : Int) := by rw [wrap_id (by omega) (by omega)]; omega
  have hno : ¬ RowP n sz rs i → (false = true ↔ ∀ j, i ≤ j → j < rs.length → RowP n sz rs j) := fun h => ⟨fun h2 => (by cases h2), fun h2 => absurd (h2 i (Nat.le_refl _) hlt) h⟩
  have hyes : RowP n sz rs i → (r1 = true ↔ ∀ j, i ≤ j → j < rs.length → RowP n sz rs j) := fun h => hr.trans ⟨fun h2 j h3 h4 => (by
   by_cases e : j = i
   ·
    subst e; exact h
   ·
    exact h2 j (by omega) h4), fun h2 j h3 h4 => h2 j (by omega) h4⟩
  by_cases hA : 0 ≤ (rs.getD i zW).f0 ∧ (rs.getD i zW).f0 ≤ wrap64 (n - 1)
  ·
   by_cases hL : (rs.getD i zW).f1.length = sz.length
   ·
    -- the shares, then the row ahead
    have hafter : ∃ r2, (r2 = true ↔ ((0 < i → ¬ cmpT (rs.getD i zW) (rs.getD (i - 1) zW) < 0) ∧ r1 = true)) ∧ Ev (fun k => if ((i : Int) > 0 : Prop) then (if 0 ≤ (wrap64 ((i : Int) - 1)) then (if (wrap64 ((i : Int) - 1)) < (rs.length : Int) then ((impl_compareRows.f k ((rd_T87 rs (wrap64 ((i : Int) - 1))).f0) ((rd_T87 rs (wrap64 ((i : Int) - 1))).f1) (rs.getD i zW).f0 (rs.getD i zW).f1).bind fun t128 => (if t128 > 0 then (some false) else (impl_ValidTable.l1 k rs (rs.length : Int) (wrap64 ((i : Int) + 1)) n sz rs))) else (none)) else (none)) else (impl_ValidTable.l1 k rs (rs.length : Int) (wrap64 ((i : Int) + 1)) n sz rs)) r2 := by
     by_cases h0 : 0 < i
     ·
      obtain ⟨m, rfl⟩ : ∃ m, i = m + 1 := ⟨i - 1, by omega⟩
      have hw1 : wrap64 (((m + 1 : Nat) : Int) - 1) = (m : Int) := by rw [wrap_id (by omega) (by omega)]; omega
      have hgm : (rs.getD m zW).f1.length ≤ 9223372036854775807 := by rw [show rs.getD m zW = rs[m] by simp [List.getD, show m < rs.length by omega]]; exact hg _ (List.getElem_mem _)
      have hC := cmp_is (rs.getD m zW) (rs.getD (m + 1) zW) hgm
      have hneg := cmpT_neg (rs.getD m zW) (rs.getD (m + 1) zW)
      simp only [if_pos (show ((m + 1 : Nat) : Int) > 0 by omega), hw1, if_pos (show (0 : Int) ≤ (m : Int) by omega), if_pos (show (m : Int) < (rs.length : Int) by omega), rdR, Nat.add_sub_cancel]
      by_cases hc : cmpT (rs.getD m zW) (rs.getD (m + 1) zW) > 0
      ·
       refine ⟨false, ⟨fun h => (by cases h), fun h => absurd (show cmpT (rs.getD (m + 1) zW) (rs.getD m zW) < 0 by omega) (h.1 (by omega))⟩, Ev.bind hC ?_⟩
       simp only [if_pos hc]
       exact Ev.now _
      ·
       refine ⟨r1, ⟨fun h => ⟨fun _ => (by omega), h⟩, fun h => h.2⟩, Ev.bind hC ?_⟩
       simp only [if_neg hc, hw]
       exact hE
     ·
      refine ⟨r1, ⟨fun h => ⟨fun h2 => absurd h2 h0, h⟩, fun h => h.2⟩, ?_⟩
      simp only [if_neg (show ¬ (i : Int) > 0 by omega), hw]
      exact hE
    obtain ⟨r2, hr2, hE2⟩ := hafter
    have hinner : ∀ (d m : Nat), m ≤ (rs.getD i zW).f1.length → (rs.getD i zW).f1.length - m = d → Ev (fun k => impl_ValidTable.l2 k (i : Int) rs (rs.length : Int) (i : Int) (rs.getD i zW).f1 ((rs.getD i zW).f1.length : Int) (m : Int) n sz rs (rs.getD i zW).f0 (rs.getD i zW).f1) (belowL ((rs.getD i zW).f1.drop m) (sz.drop m) && r2) := by
     intro d2
     induction d2 with
     | zero =>
      intro m hm hd2
      rw [List.drop_eq_nil_of_le (show (rs.getD i zW).f1.length ≤ m by omega)]
      refine Ev.step (fun k => ?_) (show Ev _ (belowL [] (sz.drop m) && r2) from by rw [show (belowL [] (sz.drop m) && r2) = r2 by simp [belowL]]; exact hE2)
      simp only [impl_ValidTable.l2]
      exact if_neg (by omega)
     | succ d2 ih2 =>
      intro m hm hd2
      have hma : m < (rs.getD i zW).f1.length := by omega
      have hmb : m < sz.length := by omega
      have h1 := ih2 (m + 1) (by omega) (by omega)
      have hwm : wrap64 ((m : Int) + 1) = ((m + 1 : Nat) : Int) := by rw [wrap_id (by omega) (by omega)]; omega
      generalize (rs.getD i zW).f1 = l at *
      have hra : l.getD m 0 = l[m] := by simp [List.getD, hma]
      have hrb : sz.getD m 0 = sz[m] := by simp [List.getD, hmb]
      rw [List.drop_eq_getElem_cons hma, List.drop_eq_getElem_cons hmb]
      by_cases h : 0 ≤ l[m] ∧ l[m] ≤ wrap64 (sz[m] - 1)
      ·
       rw [show belowL (l[m] :: l.drop (m + 1)) (sz[m] :: sz.drop (m + 1)) = belowL (l.drop (m + 1)) (sz.drop (m + 1)) by simp only [belowL, decide_eq_true h, Bool.true_and]]
       refine Ev.step (fun k => ?_) h1
       simp only [impl_ValidTable.l2]
       refine (if_pos (Int.ofNat_lt.2 hma)).trans ((if_pos (Int.natCast_nonneg m)).trans ((if_pos (Int.ofNat_lt.2 hma)).trans ((if_pos (Int.ofNat_lt.2 hmb)).trans ?_)))
       rw [rd_nat, rd_nat, hra, hrb, within_is, decide_eq_true h]
       rw [Option.bind_some]
       refine (if_pos rfl).trans ?_
       rw [hwm]
      ·
       rw [show belowL (l[m] :: l.drop (m + 1)) (sz[m] :: sz.drop (m + 1)) = false by simp only [belowL, decide_eq_false h, Bool.false_and], Bool.false_and]
       refine Ev.step (f := fun _ => some false) (fun k => ?_) (Ev.now _)
       simp only [impl_ValidTable.l2]
       refine (if_pos (Int.ofNat_lt.2 hma)).trans ((if_pos (Int.natCast_nonneg m)).trans ((if_pos (Int.ofNat_lt.2 hma)).trans ((if_pos (Int.ofNat_lt.2 hmb)).trans ?_)))
       rw [rd_nat, rd_nat, hra, hrb, within_is, decide_eq_false h]
       rw [Option.bind_some]
       exact if_neg Bool.false_ne_true
    have hI := hinner (rs.getD i zW).f1.length 0 (Nat.zero_le _) rfl
    rw [List.drop_zero, List.drop_zero] at hI
    refine ⟨belowL (rs.getD i zW).f1 sz && r2, ?_, ?_⟩
    ·
     refine Ev.step (f := fun k => impl_ValidTable.j3 k (i : Int) rs (rs.length : Int) (i : Int) false n sz rs (rs.getD i zW).f0 (rs.getD i zW).f1) (fun k => ?_) (Ev.step (fun k => ?_) hI)
     ·
      simp only [impl_ValidTable.l1]
      rw [if_pos (by omega), if_pos (by omega), if_pos (by omega), rdR, within_is, decide_eq_true hA]
      simp only [Option.bind_some, if_true, hL, bne_self_eq_false]
     ·
      simp only [impl_ValidTable.j3, Bool.false_eq_true, if_false]
      rfl
    ·
     rw [Bool.and_eq_true, hr2]
     by_cases hP : RowP n sz rs i
     ·
      rw [← hyes hP]
      exact ⟨fun h => h.2.2, fun h => ⟨hP.1.2.2, hP.2, h⟩⟩
     ·
      constructor
      ·
       intro h
       exact absurd ⟨⟨hA, hL, h.1⟩, h.2.1⟩ hP
      ·
       intro h
       exact absurd (h i (Nat.le_refl _) hlt) hP
   ·
    refine ⟨false, ?_, hno (fun h => hL h.1.2.1)⟩
    refine Ev.step (f := fun k => impl_ValidTable.j3 k (i : Int) rs (rs.length : Int) (i : Int) true n sz rs (rs.getD i zW).f0 (rs.getD i zW).f1) (fun k => ?_) (Ev.step (f := fun _ => some false) (fun k => ?_) (Ev.now _))
    ·
     simp only [impl_ValidTable.l1]
     rw [if_pos (by omega), if_pos (by omega), if_pos (by omega), rdR, within_is, decide_eq_true hA]
     simp only [Option.bind_some, if_true]
     rw [show (((rs.getD i zW).f1.length : Int) != (sz.length : Int)) = true from by rw [bne_iff_ne]; omega]
    ·
     simp only [impl_ValidTable.j3, if_true]
  ·
   refine ⟨false, ?_, hno (fun h => hA h.1.1)⟩
   refine Ev.step (f := fun k => impl_ValidTable.j3 k (i : Int) rs (rs.length : Int) (i : Int) true n sz rs (rs.getD i zW).f0 (rs.getD i zW).f1) (fun k => ?_) (Ev.step (f := fun _ => some false) (fun k => ?_) (Ev.now _))
   ·
    simp only [impl_ValidTable.l1]
    rw [if_pos (by omega), if_pos (by omega), if_pos (by omega), rdR, within_is, decide_eq_false hA]
    simp only [Option.bind_some, Bool.false_eq_true, if_false]
   ·
    simp only [impl_ValidTable.j3, if_true]

theorem sizes_loop (n : Int) (sz : List Int) (hz : sz.length ≤ 7) (rs : List Row) (r1 : Bool) (hE : Ev (fun k => impl_ValidTable.l1 k rs (rs.length : Int) 0 n sz rs) r1) : ∀ (d i : Nat), i ≤ sz.length → sz.length - i = d →
  Ev (fun k => impl_ValidTable.l0 k sz (sz.length : Int) (i : Int) n sz rs) ((sz.drop i).all (fun x => decide (1 ≤ x ∧ x ≤ 64)) && r1) := by
 intro d
 induction d with
 | zero =>
  intro i hi hd
  rw [List.drop_eq_nil_of_le (show sz.length ≤ i by omega), List.all_nil, Bool.true_and]
  exact Ev.step (fun k => by simp only [impl_ValidTable.l0]; exact if_neg (by omega)) hE
 | succ d ih =>
  intro i hi hd
  have hlt : i < sz.length := by omega
  have h1 := ih (i + 1) (by omega) (by omega)
  have hw : wrap64 ((i : Int) + 1) = ((i + 1 : Nat) : Int) := by rw [wrap_id (by omega) (by omega)]; omega
  have hra : sz.getD i 0 = sz[i] := by simp [List.getD, hlt]
  rw [List.drop_eq_getElem_cons hlt, List.all_cons]
  by_cases h : 1 ≤ sz[i] ∧ sz[i] ≤ 64
  ·
   rw [decide_eq_true h, Bool.true_and]
   refine Ev.step (fun k => ?_) h1
   simp only [impl_ValidTable.l0]
   refine (if_pos (Int.ofNat_lt.2 hlt)).trans ((if_pos (Int.natCast_nonneg i)).trans ((if_pos (Int.ofNat_lt.2 hlt)).trans ?_))
   rw [rd_nat, hra, within_is, decide_eq_true h, Option.bind_some]
   refine (if_pos rfl).trans ?_
   rw [hw]
  ·
   rw [decide_eq_false h, Bool.false_and, Bool.false_and]
   refine Ev.step (f := fun _ => some false) (fun k => ?_) (Ev.now _)
   simp only [impl_ValidTable.l0]
   refine (if_pos (Int.ofNat_lt.2 hlt)).trans ((if_pos (Int.natCast_nonneg i)).trans ((if_pos (Int.ofNat_lt.2 hlt)).trans ?_))
   rw [rd_nat, hra, within_is, decide_eq_false h, Option.bind_some]
   exact if_neg Bool.false_ne_true
theorem getR {rs : List Row} {i : Nat} (hi : i < rs.length) : rs.getD i zW = rs[i] := by simp [List.getD, List.getElem?_eq_getElem hi]
theorem tabOk_iff (n : Int) (sz : List Int) (rs : List Row) : TabOk n sz rs ↔ ((1 ≤ n ∧ n ≤ 64) ∧ (1 ≤ sz.length ∧ sz.length ≤ 7) ∧ (1 ≤ rs.length ∧ rs.length ≤ 700)) ∧ (∀ x ∈ sz, 1 ≤ x ∧ x ≤ 64) ∧ ∀ j, j < rs.length → RowP n sz rs j := by
 constructor
 ·
  intro h
  exact ⟨⟨h.1.1, h.1.2.1, h.1.2.2.1⟩, h.1.2.2.2.1, fun j hj => ⟨by rw [getR hj]; exact h.1.2.2.2.2 _ (List.getElem_mem hj), h.2 j hj⟩⟩
 ·
  intro h
  refine ⟨⟨h.1.1, h.1.2.1, h.1.2.2, h.2.1, fun r hr => ?_⟩, fun i hi => (h.2.2 i hi).2⟩
  obtain ⟨i, hi, rfl⟩ := List.getElem_of_mem hr
  have := (h.2.2 i hi).1
  rwa [getR hi] at this
/-- Whether a table is valid. -/
theorem valid_is (n : Int) (sz : List Int) (rs : List Row) (hg : ∀ r ∈ rs, r.f1.length ≤ 9223372036854775807) : ∃ r, Ev (fun k => impl_ValidTable.f k n sz rs) r ∧ (r = true ↔ TabOk n sz rs) := by
 have hfalse : ∀ k : Nat, impl_ValidTable.j0 (k + 1) true n sz rs = some false := fun k => by rw [impl_ValidTable.j0]; exact if_pos rfl
 have hEf : Ev (fun k => impl_ValidTable.j0 k true n sz rs) false := Ev.step (f := fun _ => some false) (fun k => hfalse k) (Ev.now _)
 by_cases hA : 1 ≤ n ∧ n ≤ 64
 ·
  by_cases hB : 1 ≤ (sz.length : Int) ∧ (sz.length : Int) ≤ 7
  ·
   by_cases hC : 1 ≤ (rs.length : Int) ∧ (rs.length : Int) ≤ 700
   ·
    obtain ⟨r1, hE, hr⟩ := rows_loop n hA sz (by omega) rs (by omega) hg rs.length 0 (Nat.zero_le _) rfl
    have hS := sizes_loop n sz (by omega) rs r1 hE sz.length 0 (Nat.zero_le _) rfl
    rw [List.drop_zero] at hS
    refine ⟨_, (Ev.step (f := fun k => impl_ValidTable.l0 k sz (sz.length : Int) ((0 : Nat) : Int) n sz rs) (g := fun k => impl_ValidTable.j0 k false n sz rs) (fun k => by simp only [impl_ValidTable.j0]; exact if_neg Bool.false_ne_true) hS).congr (fun k => ?_), ?_⟩
    ·
     unfold impl_ValidTable.f
     rw [within_is, within_is, within_is, decide_eq_true hA, decide_eq_true hB, decide_eq_true hC]
     rfl
    ·
     rw [Bool.and_eq_true, List.all_eq_true, tabOk_iff, hr]
     constructor
     ·
      intro h
      exact ⟨⟨hA, ⟨by omega, by omega⟩, ⟨by omega, by omega⟩⟩, fun x hx => of_decide_eq_true (h.1 x hx), fun j hj => h.2 j (Nat.zero_le _) hj⟩
     ·
      intro h
      exact ⟨fun x hx => decide_eq_true (h.2.1 x hx), fun j _ hj => h.2.2 j hj⟩
   ·
    refine ⟨false, hEf.congr (fun k => ?_), ⟨fun h => (by cases h), fun h => absurd h.1.2.2.1 (fun h => hC ⟨by omega, by omega⟩)⟩⟩
    unfold impl_ValidTable.f
    rw [within_is, within_is, within_is, decide_eq_true hA, decide_eq_true hB, decide_eq_false hC]
    rfl
  ·
   refine ⟨false, hEf.congr (fun k => ?_), ⟨fun h => (by cases h), fun h => absurd h.1.2.1 (fun h => hB ⟨by omega, by omega⟩)⟩⟩
   unfold impl_ValidTable.f
   rw [within_is, within_is, decide_eq_true hA, decide_eq_false hB]
   rfl
 ·
  refine ⟨false, hEf.congr (fun k => ?_), ⟨fun h => (by cases h), fun h => absurd h.1.1 hA⟩⟩
  unfold impl_ValidTable.f
  rw [within_is, decide_eq_false hA]
  rfl

end Go.Proofs.Ytdahdeohmbadhaa.TValid

namespace Go.Proofs.Ytdahdeohmbadhaa.TGather
open Go.RowKit Go.Lib Go.Proofs Go.Proofs.YtdahdeohmbadhaaW.PrintWords Go.Proofs.YtdahdeohmbadhaaW.PrintWords.Kd Go.Proofs.YtdahdeohmbadhaaW.PrintLast Go.Proofs.YtdahdeohmbadhaaW.PrintMore Go.Proofs.Ytdahdeohmbadhaa.G Go.Proofs.Ytdahdeohmbadhaa.Fam Go.Proofs.Ytdahdeohmbadhaa.Loops Go.Proofs.Ytdahdeohmbadhaa.MarkT Go.Proofs.Ytdahdeohmbadhaa.TSort Go.Proofs.Ytdahdeohmbadhaa.TCmp Go.Proofs.Ytdahdeohmbadhaa.TLess Go.Proofs.Ytdahdeohmbadhaa.TShape Go.Proofs.Ytdahdeohmbadhaa.TOk Go.Proofs.Ytdahdeohmbadhaa.TValid Go.Proofs.Ytdahdeohmbadhaa.TMerge Go.Proofs.Ytdahdeohmbadhaa.ExTC Go.Proofs.Ytdahdeohmbadhaa.TMade
set_option linter.unusedVariables false
set_option linter.unusedSimpArgs false

/-- Not too many rows. -/
def FewR (rs : List Row) : Prop := rs.length ≤ 1048576 ∧ ∀ g ∈ rs, g.f1.length ≤ 1048576
theorem own_is (l : List Int) (hl : l.length ≤ 1048576) : spec_l00Own.f l = some l := by
 unfold spec_l00Own.f
 rw [Option.bind_some]
 refine (if_pos ?_).trans ?_
 ·
  simp; omega
 ·
  simp
theorem rdW (rs : List Row) {i : Nat} (hi : i < rs.length) : rd_T87 rs (i : Int) = rs[i] := by simp [rd_T87, List.getD, hi]
theorem take_snoc {rs : List Row} {i : Nat} (hi : i < rs.length) : rs.take i ++ [(⟨rs[i].f0, rs[i].f1⟩ : Row)] = rs.take (i + 1) := by
 rw [List.take_succ_eq_append_getElem hi]
theorem cloneF_is (l : List Int) (hl : l.length ≤ 1048576) : slices_Clone_int64_int64.f l = some l := if_pos (by omega)
theorem gather_is (n : Int) (sz : List Int) (rs : List Row) (hz : sz.length ≤ 1048576) (h : FewR rs) : Ev (fun k => impl_gather.f k n sz rs) (n, sz, rs.mergeSort leT) := by
 have hloop : ∀ (d i : Nat), i ≤ rs.length → rs.length - i = d → Ev (fun k => impl_gather.l0 k rs (rs.length : Int) (i : Int) n sz (rs.take i)) (n, sz, rs.mergeSort leT) := by
  intro d
  induction d with
  | zero =>
   intro i hi hd
   obtain rfl : i = rs.length := by omega
   have hl := h.1
   refine Ev.step (f := fun _ => some (n, sz, (rs.take rs.length).mergeSort leT)) (fun k => by simp only [impl_gather.l0]; exact (if_neg (by omega)).trans (if_pos (by rw [List.take_length]; omega))) ?_
   rw [List.take_length]
   exact Ev.now _
  | succ d ih =>
   intro i hi hd
   have hlt : i < rs.length := by omega
   have h1 := ih (i + 1) (by omega) (by omega)
   have hg := h.2 rs[i] (List.getElem_mem hlt)
   have hl := h.1
   have hw : wrap64 ((i : Int) + 1) = ((i + 1 : Nat) : Int) := by rw [wrap_id (by omega) (by omega)]; omega
   refine Ev.step (fun k => ?_) h1
   simp only [impl_gather.l0]
   refine (if_pos (Int.ofNat_lt.2 hlt)).trans ((if_pos (Int.natCast_nonneg i)).trans ((if_pos (Int.ofNat_lt.2 hlt)).trans ?_))
   rw [rdW rs hlt, cloneF_is _ hg, Option.bind_some]
   refine (if_pos ?_).trans ?_
   ·
    rw [List.length_take]; omega
   ·
    rw [hw, take_snoc hlt]
 have := hloop rs.length 0 (Nat.zero_le _) rfl
 rw [List.take_zero] at this
 unfold impl_gather.f
 rw [cloneF_is _ hz]
 exact this
theorem few_sort {rs : List Row} (h : FewR rs) : FewR (rs.mergeSort leT) := ⟨by rw [List.length_mergeSort]; exact h.1, fun g hg => h.2 g (List.mem_mergeSort.1 hg)⟩
theorem shape_sort (n : Int) (sz : List Int) (rs : List Row) : ShapeOk n sz (rs.mergeSort leT) ↔ ShapeOk n sz rs := by
 unfold ShapeOk
 rw [List.length_mergeSort]
 constructor
 ·
  exact fun h => ⟨h.1, h.2.1, h.2.2.1, h.2.2.2.1, fun r hr => h.2.2.2.2 r (List.mem_mergeSort.2 hr)⟩
 ·
  exact fun h => ⟨h.1, h.2.1, h.2.2.1, h.2.2.2.1, fun r hr => h.2.2.2.2 r (List.mem_mergeSort.1 hr)⟩
theorem tabOk_sort (n : Int) (sz : List Int) (rs : List Row) : TabOk n sz (rs.mergeSort leT) ↔ ShapeOk n sz rs := by
 refine ⟨fun h => (shape_sort n sz rs).1 h.1, fun h => ⟨(shape_sort n sz rs).2 h, fun i hi h0 hlt => ?_⟩⟩
 have hp := List.pairwise_iff_getElem.1 (List.pairwise_mergeSort leT_trans leT_total rs) (i - 1) i (by omega) hi (by omega)
 rw [getR hi, getR (show i - 1 < (rs.mergeSort leT).length by omega)] at hlt
 have h1 := (leT_iff _ _).1 hp
 have h2 := cmpT_neg (rs.mergeSort leT)[i - 1] (rs.mergeSort leT)[i]
 omega
theorem own_calls (A : Option Addr) (c : Nat) (l : List Int) (hl : l.length ≤ 1048576) (w : World) (h : Kd.C (Kd.int .i64) w A l.length l) (hc : l.length ≤ c) :
  Calls Try.prog 61 #[.slice A l.length c] w fun e w' => ∃ v, e = .returned v ∧ Kd.R (Kd.int .i64) 2 w' w.heap.size (fun _ => True) v l ∧ Below w.heap.size w w' :=
 spec_l00Own.calls A c l l w h hc (own_is l hl)
end Go.Proofs.Ytdahdeohmbadhaa.TGather
