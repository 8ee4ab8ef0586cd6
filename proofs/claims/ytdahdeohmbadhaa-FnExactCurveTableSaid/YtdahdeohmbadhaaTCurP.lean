/- CurveTable in plain words: primes, points, powers, digits, curves' values. CurveTable: what the reference tells. CurveTable: the rows of all coefficients are put into a variable. -/
import Derived.Test.YtdahdeohmbadhaaTCurR
import Derived.Test.YtdahdeohmbadhaaTCurS
import Derived.Test.YtdahdeohmbadhaaTGath
import Derived.Test.YtdahdeohmbadhaaGx8
import Derived.Test.YtdahdeohmbadhaaGx8
import Derived.Test.YtdahdeohmbadhaaGx8
import Derived.Test.YtdahdeohmbadhaaGx7
namespace Go.Proofs.Ytdahdeohmbadhaa.TCur
open Go.RowKit Go.Lib Go.Proofs Go.Proofs.YtdahdeohmbadhaaW.PrintWords Go.Proofs.YtdahdeohmbadhaaW.PrintWords.Kd Go.Proofs.YtdahdeohmbadhaaW.PrintLast Go.Proofs.YtdahdeohmbadhaaW.PrintMore Go.Proofs.Ytdahdeohmbadhaa.G Go.Proofs.Ytdahdeohmbadhaa.Fam Go.Proofs.Ytdahdeohmbadhaa.Loops Go.Proofs.Ytdahdeohmbadhaa.MarkT Go.Proofs.Ytdahdeohmbadhaa.TSort Go.Proofs.Ytdahdeohmbadhaa.TCmp Go.Proofs.Ytdahdeohmbadhaa.TLess Go.Proofs.Ytdahdeohmbadhaa.TShape Go.Proofs.Ytdahdeohmbadhaa.TOk Go.Proofs.Ytdahdeohmbadhaa.TValid Go.Proofs.Ytdahdeohmbadhaa.TMerge Go.Proofs.Ytdahdeohmbadhaa.ExTC Go.Proofs.Ytdahdeohmbadhaa.TMade Go.Proofs.Ytdahdeohmbadhaa.TGather Go.Proofs.Ytdahdeohmbadhaa.TLists Go.Proofs.Ytdahdeohmbadhaa.TCurR Go.Proofs.Ytdahdeohmbadhaa.TCurS Go.Proofs.Ytdahdeohmbadhaa.TTail
set_option linter.unusedVariables false
set_option linter.unusedSimpArgs false

/-! ### primes -/
def primeB (p : Int) : Bool := decide (p = 2 ∨ p = 3 ∨ p = 5 ∨ p = 7 ∨ p = 11 ∨ p = 13 ∨ p = 17 ∨ p = 19 ∨ p = 23 ∨ p = 29 ∨ p = 31)
theorem prime_range {p : Int} (h : primeB p = true) : 2 ≤ p ∧ p ≤ 31 := by
  unfold primeB at h
  have := of_decide_eq_true h
  omega
theorem prime_small : ∀ p : Nat, p < 32 → impl_IsPrime.f 20 (p : Int) = some (primeB p) ∧ spec_l05Prime.f 20 (p : Int) = some (primeB p) := by decide +kernel
theorem prime_far {p : Int} (h : ¬ (0 ≤ p ∧ p < 32)) : primeB p = false := by
  unfold primeB
  exact decide_eq_false (by omega)
theorem prime_is (p : Int) : Ev (fun k => impl_IsPrime.f k p) (primeB p) := by
  by_cases h : 0 ≤ p ∧ p < 32
  · obtain ⟨n, rfl⟩ : ∃ n : Nat, p = (n : Int) := ⟨p.toNat, by omega⟩
    exact ⟨20, fun k hk => at_rounds (impl_IsPrime.mono (n : Int)) hk (prime_small n (by omega)).1⟩
  · rw [prime_far h]
    unfold impl_IsPrime.f
    have e : wrap64 (2 * 2) = 4 := by rw [show (2 * 2 : Int) = 4 from rfl]; exact wrap_id (by omega) (by omega)
    have hend : Ev (fun k => impl_IsPrime.j1 k p 2 false) false := Ev.step (f := fun _ => some false) (fun k => by
      simp only [impl_IsPrime.j1, within_is, Option.bind_some, Bool.false_eq_true, if_false]
      rw [decide_eq_false (show ¬ (2 ≤ p ∧ p ≤ 31) by omega)]) (Ev.now _)
    refine Ev.step (fun k => ?_) hend
    simp only [impl_IsPrime.l0]
    by_cases h4 : wrap64 (2 * 2) ≤ p
    · rw [if_pos h4, decide_eq_false (show ¬ p ≤ 31 by rw [e] at h4; omega)]
    · rw [if_neg h4]
theorem primeS_is (p : Int) : Ev (fun k => spec_l05Prime.f k p) (primeB p) := by
  by_cases h : 0 ≤ p ∧ p < 32
  · obtain ⟨n, rfl⟩ : ∃ n : Nat, p = (n : Int) := ⟨p.toNat, by omega⟩
    exact ⟨20, fun k hk => at_rounds (spec_l05Prime.mono (n : Int)) hk (prime_small n (by omega)).2⟩
  · rw [prime_far h]
    refine ⟨0, fun k _ => ?_⟩
    show spec_l05Prime.f k p = some false
    unfold spec_l05Prime.f
    rw [in_is, Option.bind_some, decide_eq_false (show ¬ (2 ≤ p ∧ p ≤ 31) by omega)]
    rfl

/-! ### points -/
theorem points_both (p : Int) (l : List Int) (hl : l.length ≤ 9223372036854775807) : ∃ b : Bool, Ev (fun k => impl_arePoints.f k p l) b ∧ Ev (fun k => spec_l05Points.f k p l) b := by
  have hloop : ∀ (d i : Nat), i ≤ l.length → l.length - i = d → ∃ b : Bool, Ev (fun k => spec_l00Rises.l0 k l 1 (wrap64 (p - 1)) (i : Int)) b ∧ Ev (fun k => impl_arePoints.l0 k p l l (l.length : Int) (i : Int)) (b && decide ((l.length : Int) ≤ 10)) := by
    intro d
    induction d with
    | zero =>
      intro i hi hd
      obtain rfl : i = l.length := by omega
      refine ⟨true, Ev.step (f := fun _ => some true) (fun k => ?_) (Ev.now _), Ev.step (f := fun _ => some (decide ((l.length : Int) ≤ 10))) (fun k => ?_) (Ev.now _)⟩
      · simp only [spec_l00Rises.l0]
        exact if_neg (by omega)
      · simp only [impl_arePoints.l0]
        exact if_neg (by omega)
    | succ d ih =>
      intro i hi hd
      have hlt : i < l.length := by omega
      obtain ⟨b, h1, h2⟩ := ih (i + 1) (by omega) (by omega)
      have hw : wrap64 ((i : Int) + 1) = ((i + 1 : Nat) : Int) := by rw [wrap_id (by omega) (by omega)]; omega
      by_cases hin : 1 ≤ rd l (i : Int) ∧ rd l (i : Int) ≤ wrap64 (p - 1)
      · by_cases hi0 : 0 < i
        · have hw1 : wrap64 ((i : Int) - 1) = ((i - 1 : Nat) : Int) := by rw [wrap_id (by omega) (by omega)]; omega
          by_cases hle : rd l (i : Int) ≤ rd l ((i - 1 : Nat) : Int)
          · refine ⟨false, Ev.step (f := fun _ => some false) (fun k => ?_) (Ev.now _), Ev.step (f := fun _ => some false) (fun k => ?_) (Ev.now _)⟩
            · simp only [spec_l00Rises.l0]
              rw [if_pos (by omega), if_pos (by omega), in_is, Option.bind_some, decide_eq_true hin, hw1]
              simp only [if_true]
              rw [if_pos (by omega), if_pos (by omega), if_pos (by omega), if_pos hle]
            · simp only [impl_arePoints.l0]
              rw [if_pos (by omega), if_pos (by omega), if_pos (by omega), within_is, Option.bind_some, decide_eq_true hin, hw1]
              simp only [if_true]
              rw [if_pos (by omega), if_pos (by omega), if_pos (by omega), if_pos hle]
          · refine ⟨b, Ev.step (fun k => ?_) h1, Ev.step (fun k => ?_) h2⟩
            · simp only [spec_l00Rises.l0]
              rw [if_pos (by omega), if_pos (by omega), in_is, Option.bind_some, decide_eq_true hin, hw1, hw]
              simp only [if_true]
              rw [if_pos (by omega), if_pos (by omega), if_pos (by omega), if_neg hle]
            · simp only [impl_arePoints.l0]
              rw [if_pos (by omega), if_pos (by omega), if_pos (by omega), within_is, Option.bind_some, decide_eq_true hin, hw1, hw]
              simp only [if_true]
              rw [if_pos (by omega), if_pos (by omega), if_pos (by omega), if_neg hle]
        · refine ⟨b, Ev.step (fun k => ?_) h1, Ev.step (fun k => ?_) h2⟩
          · simp only [spec_l00Rises.l0]
            rw [if_pos (by omega), if_pos (by omega), in_is, Option.bind_some, decide_eq_true hin, hw]
            simp only [if_true]
            rw [if_neg (by omega)]
          · simp only [impl_arePoints.l0]
            rw [if_pos (by omega), if_pos (by omega), if_pos (by omega), within_is, Option.bind_some, decide_eq_true hin, hw]
            simp only [if_true]
            rw [if_neg (by omega)]
      · refine ⟨false, Ev.step (f := fun _ => some false) (fun k => ?_) (Ev.now _), Ev.step (f := fun _ => some false) (fun k => ?_) (Ev.now _)⟩
        · simp only [spec_l00Rises.l0]
          rw [if_pos (by omega), if_pos (by omega), in_is, Option.bind_some, decide_eq_false hin]
          rfl
        · simp only [impl_arePoints.l0]
          rw [if_pos (by omega), if_pos (by omega), if_pos (by omega), within_is, Option.bind_some, decide_eq_false hin]
          rfl
  obtain ⟨b, h1, h2⟩ := hloop l.length 0 (Nat.zero_le _) (by omega)
  refine ⟨b && decide ((l.length : Int) ≤ 10), h2, ?_⟩
  unfold spec_l05Points.f
  by_cases h10 : (l.length : Int) ≤ 10
  · simp only [if_pos h10, decide_eq_true h10, Bool.and_true]
    exact Ev.bind h1 (Ev.now _)
  · simp only [if_neg h10, decide_eq_false h10, Bool.and_false]
    exact Ev.now _

/-! ### powers -/
def powC (p m : Nat) : Nat := if p ^ m ≤ 700 then p ^ m else 701
theorem pow_small : ∀ p : Nat, p < 32 → ∀ m : Nat, m < 8 → 2 ≤ p → impl_times.f 12 (p : Int) (m : Int) 700 = some (powC p m : Int) ∧ spec_l06Power.f 12 (p : Int) (m : Int) = some (powC p m : Int) := by decide +kernel
theorem times_is {p m : Nat} (h1 : 2 ≤ p ∧ p ≤ 31) (h2 : m ≤ 7) : Ev (fun k => impl_times.f k (p : Int) (m : Int) 700) (powC p m : Int) := ⟨12, fun k hk => at_rounds (impl_times.mono (p : Int) (m : Int) 700) hk (pow_small p (by omega) m (by omega) h1.1).1⟩
theorem power_is {p m : Nat} (h1 : 2 ≤ p ∧ p ≤ 31) (h2 : m ≤ 7) : Ev (fun k => spec_l06Power.f k (p : Int) (m : Int)) (powC p m : Int) := ⟨12, fun k hk => at_rounds (spec_l06Power.mono (p : Int) (m : Int)) hk (pow_small p (by omega) m (by omega) h1.1).2⟩

/-! ### digits -/
theorem wrap_nat {n : Nat} (h : n ≤ 1000000) : wrap64 (n : Int) = (n : Int) := wrap_id (by omega) (by omega)
theorem digits_is {b m n : Nat} (hb : 1 ≤ b ∧ b ≤ 1000) (hm : m ≤ 1000) (hn : n ≤ 1000000) : Ev (fun k => spec_l06Digits.f k (n : Int) (b : Int) (m : Int)) (digs b m n) := by
  have hloop : ∀ (j q : Nat) (T : List Int), j ≤ m → q ≤ 1000000 → Ev (fun k => spec_l06Digits.l0 k (q : Int) (b : Int) (List.replicate j 0 ++ T) ((j : Int) - 1)) (digs b j q ++ T) := by
    intro j
    induction j with
    | zero =>
      intro q T _ _
      refine Ev.step (f := fun _ => some T) (fun k => ?_) (Ev.now _)
      simp only [spec_l06Digits.l0]
      exact if_neg (by omega)
    | succ j ih =>
      intro q T hj hq
      have hqb : q / b ≤ q := Nat.div_le_self _ _
      have h := ih (q / b) ([((q % b : Nat) : Int)] ++ T) (by omega) (by omega)
      have hq2 : wrap64 ((q / b : Nat) : Int) = ((q / b : Nat) : Int) := wrap_nat (Nat.le_trans hqb hq)
      have hj2 : wrap64 ((j : Int) - 1) = (j : Int) - 1 := wrap_id (by omega) (by omega)
      have e1 : (((j + 1 : Nat) : Int) - 1) = (j : Int) := by omega
      rw [e1, digs, List.append_assoc]
      refine Ev.step (fun k => ?_) h
      simp only [spec_l06Digits.l0]
      rw [if_pos (by omega), if_neg (by omega), if_pos (by omega), if_pos (by rw [List.length_append, List.length_replicate]; omega), Int.toNat_natCast,
        show Int.tdiv (q : Int) (b : Int) = ((q / b : Nat) : Int) from rfl, show Int.tmod (q : Int) (b : Int) = ((q % b : Nat) : Int) from rfl, hq2, hj2]
      congr 1
      rw [List.replicate_succ', List.append_assoc, List.set_append_right _ _ (by rw [List.length_replicate]; exact Nat.le_refl _), List.length_replicate, Nat.sub_self]
      rfl
  unfold spec_l06Digits.f
  have h := hloop m n [] (Nat.le_refl _) hn
  simp only [List.append_nil] at h
  have e : wrap64 ((m : Int) - 1) = (m : Int) - 1 := wrap_id (by omega) (by omega)
  simp only [if_pos (show (0 : Int) ≤ (m : Int) by omega), Int.toNat_natCast, if_pos (show m ≤ 35184372088832 by omega), e]
  exact h

/-! ### values -/
def valC (p : Int) (l : List Int) (x : Int) : Int := l.foldr (fun c acc => Int.tmod (wrap64 (wrap64 (acc * x) + c)) p) 0
theorem val_step {p : Int} {l : List Int} {x : Int} {j : Nat} (h : j < l.length) : Int.tmod (wrap64 (wrap64 (valC p (l.drop (j + 1)) x * x) + rd l (j : Int))) p = valC p (l.drop j) x := by
  rw [List.drop_eq_getElem_cons h, show rd l (j : Int) = l[j] by simp [rd, List.getD, List.getElem?_eq_getElem h]]
  rfl
theorem curveAt_is {p : Int} (hp : p ≠ 0) (l : List Int) (x : Int) (hl : l.length ≤ 1048576) : Ev (fun k => impl_curveAt.f k p l x) (valC p l x) := by
  have hloop : ∀ (j : Nat), j ≤ l.length → Ev (fun k => impl_curveAt.l0 k p l x (valC p (l.drop j) x) ((j : Int) - 1)) (valC p l x) := by
    intro j
    induction j with
    | zero =>
      intro _
      refine Ev.step (f := fun _ => some (valC p l x)) (fun k => ?_) (Ev.now _)
      simp only [impl_curveAt.l0]
      exact if_neg (by omega)
    | succ j ih =>
      intro hj
      have h := ih (by omega)
      have e1 : (((j + 1 : Nat) : Int) - 1) = (j : Int) := by omega
      rw [e1]
      refine Ev.step (fun k => ?_) h
      simp only [impl_curveAt.l0]
      rw [if_pos (by omega), if_pos (by omega), if_pos (by omega), if_neg hp, val_step (by omega), wrap_id (by omega) (by omega)]
  have h := hloop l.length (Nat.le_refl _)
  rw [List.drop_length] at h
  unfold impl_curveAt.f
  have e : wrap64 ((l.length : Int) - 1) = (l.length : Int) - 1 := wrap_id (by omega) (by omega)
  simp only [e]
  exact h
theorem value_is {p : Int} (hp : p ≠ 0) (l : List Int) (x : Int) (hl : l.length ≤ 1048576) : Ev (fun k => spec_l05Value.f k p l x) (valC p l x) := by
  have hloop : ∀ (j : Nat), j ≤ l.length → Ev (fun k => spec_l05Value.l0 k p l x (valC p (l.drop j) x) ((j : Int) - 1)) (valC p l x) := by
    intro j
    induction j with
    | zero =>
      intro _
      refine Ev.step (f := fun _ => some (valC p l x)) (fun k => ?_) (Ev.now _)
      simp only [spec_l05Value.l0]
      exact if_neg (by omega)
    | succ j ih =>
      intro hj
      have h := ih (by omega)
      have e1 : (((j + 1 : Nat) : Int) - 1) = (j : Int) := by omega
      rw [e1]
      refine Ev.step (fun k => ?_) h
      simp only [spec_l05Value.l0]
      rw [if_pos (by omega), if_pos (by omega), if_pos (by omega), if_neg hp, val_step (by omega), wrap_id (by omega) (by omega)]
  have h := hloop l.length (Nat.le_refl _)
  rw [List.drop_length] at h
  unfold spec_l05Value.f
  have e : wrap64 ((l.length : Int) - 1) = (l.length : Int) - 1 := wrap_id (by omega) (by omega)
  simp only [e]
  exact h
/-- The row of coefficients. -/
def rowC (p : Int) (pts l : List Int) : Row := ⟨rd l 0, pts.map (valC p l)⟩
theorem take_map_snoc {α : Type} {f : Int → α} {l : List Int} {i : Nat} (h : i < l.length) : (l.take i).map f ++ [f (rd l (i : Int))] = (l.take (i + 1)).map f := by
  rw [List.take_succ_eq_append_getElem h, List.map_append, show rd l (i : Int) = l[i] by simp [rd, List.getD, List.getElem?_eq_getElem h]]
  rfl
theorem cur_is {p : Int} (hp : p ≠ 0) (l pts : List Int) (hl : 0 < l.length ∧ l.length ≤ 1048576) (hpt : pts.length ≤ 1048576) : Ev (fun k => curN.f k l pts p) (rd l 0, pts.map (valC p l)) := by
  unfold curN.f
  simp only [if_pos (show 0 < (l.length : Int) by omega)]
  have hloop : ∀ (d i : Nat), i ≤ pts.length → pts.length - i = d → Ev (fun k => curN.l0 k l p pts (pts.length : Int) (i : Int) (rd l 0) ((pts.take i).map (valC p l))) (rd l 0, pts.map (valC p l)) := by
    intro d
    induction d with
    | zero =>
      intro i hi hd
      obtain rfl : i = pts.length := by omega
      rw [List.take_length]
      refine Ev.step (f := fun _ => some (rd l 0, pts.map (valC p l))) (fun k => ?_) (Ev.now _)
      simp only [curN.l0]
      exact if_neg (by omega)
    | succ d ih =>
      intro i hi hd
      have hlt : i < pts.length := by omega
      have h3 := ih (i + 1) (by omega) (by omega)
      have hw : wrap64 ((i : Int) + 1) = ((i + 1 : Nat) : Int) := by rw [wrap_id (by omega) (by omega)]; omega
      rw [← take_map_snoc hlt] at h3
      refine Ev.step (f := fun k => (impl_curveAt.f k p l (rd pts (i : Int))).bind fun t => curN.l0 k l p pts (pts.length : Int) ((i + 1 : Nat) : Int) (rd l 0) ((pts.take i).map (valC p l) ++ [t])) (fun k => ?_) (Ev.bind (curveAt_is hp l _ hl.2) h3)
      simp only [curN.l0]
      rw [if_pos (by omega), if_pos (by omega), if_pos (by omega), hw]
      have hlen : ((pts.take i).map (valC p l)).length < 17592186044416 := by rw [List.length_map, List.length_take]; omega
      simp only [if_pos hlen]
  exact hloop pts.length 0 (Nat.zero_le _) (by omega)
end Go.Proofs.Ytdahdeohmbadhaa.TCur

namespace Go.Proofs.Ytdahdeohmbadhaa.TCur
open Go.RowKit Go.Lib Go.Proofs Go.Proofs.YtdahdeohmbadhaaW.PrintWords Go.Proofs.YtdahdeohmbadhaaW.PrintWords.Kd Go.Proofs.YtdahdeohmbadhaaW.PrintLast Go.Proofs.YtdahdeohmbadhaaW.PrintMore Go.Proofs.Ytdahdeohmbadhaa.G Go.Proofs.Ytdahdeohmbadhaa.Fam Go.Proofs.Ytdahdeohmbadhaa.Loops Go.Proofs.Ytdahdeohmbadhaa.MarkT Go.Proofs.Ytdahdeohmbadhaa.TSort Go.Proofs.Ytdahdeohmbadhaa.TCmp Go.Proofs.Ytdahdeohmbadhaa.TLess Go.Proofs.Ytdahdeohmbadhaa.TShape Go.Proofs.Ytdahdeohmbadhaa.TOk Go.Proofs.Ytdahdeohmbadhaa.TValid Go.Proofs.Ytdahdeohmbadhaa.TMerge Go.Proofs.Ytdahdeohmbadhaa.ExTC Go.Proofs.Ytdahdeohmbadhaa.TMade Go.Proofs.Ytdahdeohmbadhaa.TGather Go.Proofs.Ytdahdeohmbadhaa.TLists Go.Proofs.Ytdahdeohmbadhaa.TCurR Go.Proofs.Ytdahdeohmbadhaa.TCurS Go.Proofs.Ytdahdeohmbadhaa.TTail
set_option linter.unusedVariables false
set_option linter.unusedSimpArgs false

/-- What is made of rows. -/
def outV (n : Int) (z : List Int) (rs : List Row) : Int × List Int × List Row × Int := if ShapeOk n z rs then (n, z, rs.mergeSort leT, 0) else (0, [], [], 3)
theorem limit_is (n : Int) (z : List Int) (rs : List Row) (hz : z.length ≤ 1048576) (h : FewR rs) : Ev (fun k => impl_tableOrLimit.f k n z rs) (outV n z rs) := by
  unfold impl_tableOrLimit.f outV
  refine Ev.bind (gather_is n z rs hz h) ?_
  obtain ⟨r, hE, hr⟩ := valid_is n z (rs.mergeSort leT) (fun g hg => Nat.le_trans ((few_sort h).2 g hg) (by decide))
  refine Ev.bind hE ?_
  rw [tabOk_sort] at hr
  by_cases hs : ShapeOk n z rs
  · rw [if_pos hs]
    simp only [if_pos (hr.2 hs)]
    exact Ev.now _
  · rw [if_neg hs]
    simp only [if_neg (fun h2 => hs (hr.1 h2))]
    exact Ev.now _
/-- The rows of all coefficients. -/
def rowsC (p m : Nat) (pts : List Int) : List Row := ((List.range (p ^ m)).map (digs p m)).map (rowC (p : Int) pts)
/-- What is told; b: are the points ones? -/
def curV (b : Bool) (p deg : Int) (pts : List Int) : Int × List Int × List Row × Int :=
  if primeB p = true then (if ((0 ≤ deg ∧ deg ≤ 6) ∧ b = true) ∧ (1 ≤ (pts.length : Int) ∧ (pts.length : Int) ≤ 7) then (if 700 < powC p.toNat (deg + 1).toNat then (0, [], [], 3) else outV p (List.replicate pts.length p) (rowsC p.toNat (deg + 1).toNat pts)) else (0, [], [], 2)) else (0, [], [], 1)
theorem deal_is {p : Int} (hp : p ≠ 0) (l pts : List Int) (hl : l.length ≤ 1048576) (hpt : pts.length ≤ 1048576) : Ev (fun k => spec_l05Deal.f k p l pts) (pts.map fun x => (⟨x, valC p l x⟩ : S154)) := by
  unfold spec_l05Deal.f
  have hloop : ∀ (d i : Nat), i ≤ pts.length → pts.length - i = d → Ev (fun k => spec_l05Deal.l0 k p l pts ((pts.take i).map fun x => (⟨x, valC p l x⟩ : S154)) (i : Int)) (pts.map fun x => (⟨x, valC p l x⟩ : S154)) := by
    intro d
    induction d with
    | zero =>
      intro i hi hd
      obtain rfl : i = pts.length := by omega
      rw [List.take_length]
      refine Ev.step (f := fun _ => some (pts.map fun x => (⟨x, valC p l x⟩ : S154))) (fun k => ?_) (Ev.now _)
      simp only [spec_l05Deal.l0]
      exact if_neg (by omega)
    | succ d ih =>
      intro i hi hd
      have hlt : i < pts.length := by omega
      have h3 := ih (i + 1) (by omega) (by omega)
      have hw : wrap64 ((i : Int) + 1) = ((i + 1 : Nat) : Int) := by rw [wrap_id (by omega) (by omega)]; omega
      rw [← take_map_snoc hlt] at h3
      refine Ev.step (f := fun k => (spec_l05Value.f k p l (rd pts (i : Int))).bind fun t => spec_l05Deal.l0 k p l pts (((pts.take i).map fun x => (⟨x, valC p l x⟩ : S154)) ++ [(⟨rd pts (i : Int), t⟩ : S154)]) ((i + 1 : Nat) : Int)) (fun k => ?_) (Ev.bind (value_is hp l _ hl) h3)
      simp only [spec_l05Deal.l0]
      have hlen : ((pts.take i).map fun x => (⟨x, valC p l x⟩ : S154)).length < 8796093022208 := by rw [List.length_map, List.length_take]; omega
      rw [if_pos (by omega), if_pos (by omega), hw]
      simp only [if_pos hlen]
  exact hloop pts.length 0 (Nat.zero_le _) (by omega)
theorem values_is (ss : List S154) (hs : ss.length ≤ 1048576) : Ev (fun k => spec_l05Values.f k ss) (ss.map fun s => s.f1) := by
  unfold spec_l05Values.f
  have hloop : ∀ (d i : Nat), i ≤ ss.length → ss.length - i = d → Ev (fun k => spec_l05Values.l0 k ss ((ss.take i).map fun s => s.f1) (i : Int)) (ss.map fun s => s.f1) := by
    intro d
    induction d with
    | zero =>
      intro i hi hd
      obtain rfl : i = ss.length := by omega
      rw [List.take_length]
      refine Ev.step (f := fun _ => some (ss.map fun s => s.f1)) (fun k => ?_) (Ev.now _)
      simp only [spec_l05Values.l0]
      exact if_neg (by omega)
    | succ d ih =>
      intro i hi hd
      have hlt : i < ss.length := by omega
      have h3 := ih (i + 1) (by omega) (by omega)
      have hw : wrap64 ((i : Int) + 1) = ((i + 1 : Nat) : Int) := by rw [wrap_id (by omega) (by omega)]; omega
      have hsn : ((ss.take i).map fun s => s.f1) ++ [(rd_T154 ss (i : Int)).f1] = (ss.take (i + 1)).map fun s => s.f1 := by
        rw [List.take_succ_eq_append_getElem hlt, List.map_append, show rd_T154 ss (i : Int) = ss[i] by simp [rd_T154, List.getD, List.getElem?_eq_getElem hlt]]
        rfl
      rw [← hsn] at h3
      refine Ev.step (fun k => ?_) h3
      simp only [spec_l05Values.l0]
      have hlen : ((ss.take i).map fun s => s.f1).length < 17592186044416 := by rw [List.length_map, List.length_take]; omega
      rw [if_pos (by omega), if_pos (by omega), if_pos hlen, hw]
  exact hloop ss.length 0 (Nat.zero_le _) (by omega)
theorem pow_le {p m : Nat} (h : ¬ 700 < powC p m) : powC p m = p ^ m ∧ p ^ m ≤ 700 := by
  unfold powC at h ⊢
  by_cases hp : p ^ m ≤ 700
  · exact ⟨if_pos hp, hp⟩
  · rw [if_neg hp] at h
    omega
theorem rows_snoc (p m : Nat) (pts : List Int) (i : Nat) : ((List.range i).map (digs p m)).map (rowC (p : Int) pts) ++ [rowC (p : Int) pts (digs p m i)] = ((List.range (i + 1)).map (digs p m)).map (rowC (p : Int) pts) := by
  rw [List.range_succ, List.map_append, List.map_append]
  rfl
theorem rows_len (p m : Nat) (pts : List Int) : (rowsC p m pts).length = p ^ m := by
  unfold rowsC
  rw [List.length_map, List.length_map, List.length_range]
theorem made_is {p m : Nat} (hp : 2 ≤ p ∧ p ≤ 31) (hm : 1 ≤ m ∧ m ≤ 7) (hpow : p ^ m ≤ 700) (pts : List Int) (hpt : pts.length ≤ 7) : Ev (fun k => spec_CurveTable.l0 k (p : Int) ((m : Int) - 1) pts (pts.length : Int) ((p ^ m : Nat) : Int) [] 0) (outV (p : Int) (List.replicate pts.length (p : Int)) (rowsC p m pts)) := by
  have hp0 : (p : Int) ≠ 0 := by omega
  have hwm : wrap64 ((m : Int) - 1 + 1) = (m : Int) := by rw [wrap_id (by omega) (by omega)]; omega
  have hsz : ∀ (d i : Nat), i ≤ pts.length → pts.length - i = d → Ev (fun k => spec_CurveTable.l1 k (p : Int) (pts.length : Int) (rowsC p m pts) (List.replicate i (p : Int)) (i : Int)) (outV (p : Int) (List.replicate pts.length (p : Int)) (rowsC p m pts)) := by
    intro d
    induction d with
    | zero =>
      intro i hi hd
      obtain rfl : i = pts.length := by omega
      refine Ev.step (f := fun _ => some (outV (p : Int) (List.replicate pts.length (p : Int)) (rowsC p m pts))) (fun k => ?_) (Ev.now _)
      simp only [spec_CurveTable.l1]
      refine (if_neg (by omega)).trans ?_
      unfold tailG outV
      exact if_pos (by rw [rows_len]; omega)
    | succ d ih =>
      intro i hi hd
      have h3 := ih (i + 1) (by omega) (by omega)
      have hw : wrap64 ((i : Int) + 1) = ((i + 1 : Nat) : Int) := by rw [wrap_id (by omega) (by omega)]; omega
      rw [List.replicate_succ'] at h3
      refine Ev.step (fun k => ?_) h3
      simp only [spec_CurveTable.l1]
      rw [if_pos (by omega), if_pos (by rw [List.length_replicate]; omega), hw]
  generalize hN : p ^ m = N at *
  have hloop : ∀ (d i : Nat), i ≤ N → N - i = d → Ev (fun k => spec_CurveTable.l0 k (p : Int) ((m : Int) - 1) pts (pts.length : Int) (N : Int) (((List.range i).map (digs p m)).map (rowC (p : Int) pts)) (i : Int)) (outV (p : Int) (List.replicate pts.length (p : Int)) (rowsC p m pts)) := by
    intro d
    induction d with
    | zero =>
      intro i hi hd
      obtain rfl : i = N := by omega
      refine Ev.step (fun k => ?_) (hsz pts.length 0 (Nat.zero_le _) (by omega))
      simp only [spec_CurveTable.l0]
      refine (if_neg (by omega)).trans ?_
      unfold rowsC
      rw [hN]
      rfl
    | succ d ih =>
      intro i hi hd
      have h3 := ih (i + 1) (by omega) (by omega)
      have hw : wrap64 ((i : Int) + 1) = ((i + 1 : Nat) : Int) := by rw [wrap_id (by omega) (by omega)]; omega
      rw [← rows_snoc] at h3
      have hdl : (digs p m i).length = m := digs_len p m i
      have hlen : (((List.range i).map (digs p m)).map (rowC (p : Int) pts)).length < 4398046511104 := by rw [List.length_map, List.length_map, List.length_range]; omega
      refine Ev.step (f := fun k => (spec_l06Digits.f k (i : Int) (p : Int) (m : Int)).bind fun c => (if 0 < (c.length : Int) then ((spec_l05Deal.f k (p : Int) c pts).bind fun t182 => ((spec_l05Values.f k t182).bind fun t185 => spec_CurveTable.l0 k (p : Int) ((m : Int) - 1) pts (pts.length : Int) (N : Int) (((List.range i).map (digs p m)).map (rowC (p : Int) pts) ++ [(⟨rd c 0, t185⟩ : S87)]) ((i + 1 : Nat) : Int))) else none)) (fun k => ?_) (Ev.bind (digits_is (by omega) (by omega) (by omega)) ?_)
      · simp only [spec_CurveTable.l0]
        rw [if_pos (by omega), hwm, hw]
        simp only [if_pos hlen]
      · simp only [if_pos (show 0 < ((digs p m i).length : Int) by omega)]
        refine Ev.bind (deal_is hp0 (digs p m i) pts (by omega) (by omega)) (Ev.bind (values_is _ (by rw [List.length_map]; omega)) ?_)
        have e : ((pts.map fun x => (⟨x, valC (p : Int) (digs p m i) x⟩ : S154)).map fun s => s.f1) = pts.map (valC (p : Int) (digs p m i)) := by rw [List.map_map]; rfl
        rw [e]
        exact h3
  exact hloop N 0 (Nat.zero_le _) (by omega)
theorem spec_is (b : Bool) (p deg : Int) (pts : List Int) (hb : Ev (fun k => spec_l05Points.f k p pts) b) : Ev (fun k => spec_CurveTable.f k p deg pts) (curV b p deg pts) := by
  unfold spec_CurveTable.f curV
  refine Ev.bind (primeS_is p) ?_
  by_cases hp : primeB p = true
  · simp only [hp, if_true]
    have hpr := prime_range hp
    have hj : Ev (fun k => spec_CurveTable.j0 k p deg pts (pts.length : Int) true) (0, [], [], 2) := Ev.step (f := fun _ => some (0, [], [], 2)) (fun k => by simp only [spec_CurveTable.j0, if_true]) (Ev.now _)
    simp only [in_is, Option.bind_some]
    by_cases hd : 0 ≤ deg ∧ deg ≤ 6
    · simp only [decide_eq_true hd, if_true]
      refine Ev.bind hb ?_
      cases b with
      | true =>
        by_cases hn : 1 ≤ (pts.length : Int) ∧ (pts.length : Int) ≤ 7
        · rw [if_pos (show ((0 ≤ deg ∧ deg ≤ 6) ∧ true = true) ∧ 1 ≤ (pts.length : Int) ∧ (pts.length : Int) ≤ 7 from ⟨⟨hd, rfl⟩, hn⟩)]
          simp only [if_true, decide_eq_true hn, Bool.not_true]
          obtain ⟨P, rfl⟩ : ∃ P : Nat, p = (P : Int) := ⟨p.toNat, by omega⟩
          obtain ⟨m, rfl⟩ : ∃ m : Nat, deg = (m : Int) - 1 := ⟨(deg + 1).toNat, by omega⟩
          have em : ((m : Int) - 1 + 1).toNat = m := by omega
          have hwm : wrap64 ((m : Int) - 1 + 1) = (m : Int) := by rw [wrap_id (by omega) (by omega)]; omega
          rw [Int.toNat_natCast, em]
          refine Ev.step (f := fun k => (spec_l06Power.f k (P : Int) (m : Int)).bind fun t => if t > 700 then some (0, [], [], 3) else spec_CurveTable.l0 k (P : Int) ((m : Int) - 1) pts (pts.length : Int) t [] 0) (fun k => ?_) (Ev.bind (power_is (p := P) (m := m) (by omega) (by omega)) ?_)
          · simp only [spec_CurveTable.j0, Bool.false_eq_true, if_false, hwm]
          · by_cases hc : 700 < powC P m
            · simp only [if_pos (show (powC P m : Int) > 700 by omega), if_pos hc]
              exact Ev.now _
            · simp only [if_neg (show ¬ (powC P m : Int) > 700 by omega), if_neg hc]
              obtain ⟨e1, e2⟩ := pow_le hc
              rw [e1]
              exact made_is (by omega) (by omega) e2 pts (by omega)
        · rw [if_neg (show ¬ (((0 ≤ deg ∧ deg ≤ 6) ∧ true = true) ∧ 1 ≤ (pts.length : Int) ∧ (pts.length : Int) ≤ 7) from fun h => hn h.2)]
          simp only [if_true, decide_eq_false hn, Bool.not_false]
          exact hj
      | false =>
        simp only [Bool.false_eq_true, if_false, and_false, false_and]
        exact hj
    · simp only [decide_eq_false hd, Bool.false_eq_true, if_false, if_neg (show ¬ (((0 ≤ deg ∧ deg ≤ 6) ∧ b = true) ∧ 1 ≤ (pts.length : Int) ∧ (pts.length : Int) ≤ 7) from fun h => hd h.1.1)]
      exact hj
  · have hp' : primeB p = false := by simpa using hp
    simp only [hp', Bool.false_eq_true, if_false]
    exact Ev.now _
end Go.Proofs.Ytdahdeohmbadhaa.TCur

namespace Go.Proofs.Ytdahdeohmbadhaa.TCur
open Go.RowKit Go.Lib Go.Proofs Go.Proofs.YtdahdeohmbadhaaW.PrintWords Go.Proofs.YtdahdeohmbadhaaW.PrintWords.Kd Go.Proofs.YtdahdeohmbadhaaW.PrintLast Go.Proofs.YtdahdeohmbadhaaW.PrintMore Go.Proofs.Ytdahdeohmbadhaa.G Go.Proofs.Ytdahdeohmbadhaa.Fam Go.Proofs.Ytdahdeohmbadhaa.Loops Go.Proofs.Ytdahdeohmbadhaa.MarkT Go.Proofs.Ytdahdeohmbadhaa.TSort Go.Proofs.Ytdahdeohmbadhaa.TCmp Go.Proofs.Ytdahdeohmbadhaa.TLess Go.Proofs.Ytdahdeohmbadhaa.TShape Go.Proofs.Ytdahdeohmbadhaa.TOk Go.Proofs.Ytdahdeohmbadhaa.TValid Go.Proofs.Ytdahdeohmbadhaa.TMerge Go.Proofs.Ytdahdeohmbadhaa.ExTC Go.Proofs.Ytdahdeohmbadhaa.TMade Go.Proofs.Ytdahdeohmbadhaa.TGather Go.Proofs.Ytdahdeohmbadhaa.TLists Go.Proofs.Ytdahdeohmbadhaa.TCurR
set_option linter.unusedVariables false
set_option linter.unusedSimpArgs false

/-- A list of numbers of one's own, where its block is as it was. -/
theorem keepR {W W' : World} {base g m c : Nat} {l : List Int} (h : Kd.R (Kd.int .i64) 2 W base (fun _ => True) (.slice (some ⟨g, 0, none⟩) m c) l) (hk : ∀ cs, W.heap[g]? = some (.cells cs 2 (0, 0)) → W'.heap[g]? = some (.cells cs 2 (0, 0))) : Kd.R (Kd.int .i64) 2 W' base (fun _ => True) (.slice (some ⟨g, 0, none⟩) m c) l := by
  obtain ⟨h1, h2⟩ := own_of_R h
  rcases h2 with ⟨e, _⟩ | ⟨g', cap, cur, e, hb, hh, h3, h4, h5, h6⟩
  · cases e
  · have e' := e
    injection e' with e1 e2 e3
    injection e1 with e1
    injection e1 with e1 _ _
    subst e1
    exact R_of_own ⟨h1, .inr ⟨g, cap, cur, e, hb, hk _ hh, h3, h4, h5, h6⟩⟩ (fun _ _ => trivial)
/-- The variable with the rows, and what lies beside it. -/
def RowsIn (w0 : World) (gr : Nat) (ok : Nat → Prop) (rows : List Row) (W : World) : Prop := ∃ v, W.heap[gr]? = some (.cells #[v] 25 (0, 0)) ∧ Kd.S dW 87 W w0.heap.size ok v rows
def Beside (ks : List (Nat × Array Value × Nat)) (W : World) : Prop := ∀ k ∈ ks, W.heap[k.1]? = some (.cells k.2.1 k.2.2 (0, 0))
theorem Beside.below {ks : List (Nat × Array Value × Nat)} {W W' : World} (h : Beside ks W) (hb : Below W.heap.size W W') : Beside ks W' := fun k hk => blk_below (h k hk) hb
theorem RowsIn.intro {w0 W : World} {gr : Nat} {ok : Nat → Prop} {rows : List Row} {v : Value} (h1 : W.heap[gr]? = some (.cells #[v] 25 (0, 0))) (h2 : Kd.S dW 87 W w0.heap.size ok v rows) : RowsIn w0 gr ok rows W := ⟨v, h1, h2⟩
theorem Beside.three {a b c : Nat × Array Value × Nat} {W : World} (ha : W.heap[a.1]? = some (.cells a.2.1 a.2.2 (0, 0))) (hb : W.heap[b.1]? = some (.cells b.2.1 b.2.2 (0, 0))) (hc : W.heap[c.1]? = some (.cells c.2.1 c.2.2 (0, 0))) : Beside [a, b, c] W := fun k hk => by
  simp only [List.mem_cons, List.mem_nil_iff, or_false] at hk
  rcases hk with rfl | rfl | rfl
  · exact ha
  · exact hb
  · exact hc
theorem three_all {α : Type} {Q : α → Prop} {a b c : α} (ha : Q a) (hb : Q b) (hc : Q c) : ∀ k ∈ [a, b, c], Q k := fun k hk => by
  simp only [List.mem_cons, List.mem_nil_iff, or_false] at hk
  rcases hk with rfl | rfl | rfl
  · exact ha
  · exact hb
  · exact hc
set_option maxRecDepth 100000 in
theorem rows_calls (P m : Nat) (x : Int) (hx : x = (m : Int)) (hP : 2 ≤ P ∧ P ≤ 31) (hm : 1 ≤ m ∧ m ≤ 7) (hpow : P ^ m ≤ 700) (A : Option Addr) (c : Nat) (pts : List Int) (hpt : pts.length ≤ 7) (w0 w : World) (gp gq gr : Nat) (ks : List (Nat × Array Value × Nat))
    (hC : Kd.C (Kd.int .i64) w0 A pts.length pts) (hc : pts.length ≤ c) (hb : Below w0.heap.size w0 w) (hgr : w0.heap.size ≤ gr)
    (hr : RowsIn w0 gr (fun _ => True) [] w) (hks : Beside ks w) (hp : (gp, #[Value.int .i64 (P : Int)], 2) ∈ ks) (hq : (gq, #[Value.slice A pts.length c], 22) ∈ ks)
    (hne : ∀ k ∈ ks, k.1 ≠ gr ∧ k.2.2 ≠ 87) :
    Calls Try.prog 105 #[.int .i64 x, .int .i64 (P : Int), .func (.func 106) #[] #[.pointer (some ⟨gq, 0, none⟩), .pointer (some ⟨gp, 0, none⟩), .pointer (some ⟨gr, 0, none⟩)]] w fun e w' =>
      e = .returned (.tuple #[]) ∧ RowsIn w0 gr (fun _ => True) (rowsC P m pts) w' ∧ Beside ks w' ∧ Below w0.heap.size w0 w' := by
  subst hx
  obtain ⟨v0, hr1, hr2⟩ := hr
  have hrl := blk_lt hr1
  have hkl : ∀ k ∈ ks, k.1 < w.heap.size := fun k hk => blk_lt (hks k hk)
  refine (lists_calls m P (by omega) (by omega) 106 #[.pointer (some ⟨gq, 0, none⟩), .pointer (some ⟨gp, 0, none⟩), .pointer (some ⟨gr, 0, none⟩)] (enters_of Try.func106 (by kernel_rfl) rfl)
    (fun g seen W => RowsIn w0 gr (fun k => k ≠ g) (seen.map (rowC (P : Int) pts)) W ∧ Beside ks W ∧ Below w0.heap.size w0 W) w ?_ ?_ ?_).mono ?_
  · rintro seen l W g c' hsl hl hg ⟨⟨v, hv1, hv2⟩, hks', hb'⟩ hR
    obtain ⟨k, hk⟩ := (cur_is (p := (P : Int)) (by omega) l pts (by omega) (by omega)).rounds
    obtain ⟨e1, hc', hCl⟩ := R_reads' hR
    have hgl : g < W.heap.size := by
      obtain ⟨g', cap, e, _, hlt, _⟩ := R_form hR (by omega)
      injection e with e1 _ _
      injection e1 with e1
      injection e1 with e1 _ _
      omega
    have H := curN.calls k (some ⟨g, 0, none⟩) c' l A c pts (P : Int) _ _ w0 W gq gp gr (fun k => k ≠ g) v (seen.map (rowC (P : Int) pts)) hCl (by omega) (Kd.C_below hC hb') hc ((blk_cell (hks' _ hq) 0).trans rfl) ((blk_cell (hks' _ hp) 0).trans rfl) hv1 hv2 (fun k hk => by omega) hb' hgr (by rw [List.length_map]; omega) hk
    rw [hl] at H
    refine H.mono ?_
    rintro e w' ⟨rfl, v1, h1, h2, h3, h4⟩
    refine ⟨rfl, ⟨⟨v1, h1, by rw [List.map_append]; exact h2⟩, fun k hk => h4 _ _ _ (hks' k hk) (hne k hk).1 (hne k hk).2, h3⟩, keepR hR (fun cs hcs => h4 g cs _ hcs (by omega) (by decide))⟩
  · intro W g hbW hg
    exact ⟨⟨v0, blk_below hr1 hbW, Kd.S_mono (Kd.S_below (Kd.S_bound hr2) hbW) (fun k hk => by have := hk.2.2.1; omega)⟩, hks.below hbW, below_then hb hb.size hbW⟩
  · rintro g seen W i x hg ⟨⟨v, hv1, hv2⟩, hks', hb'⟩
    exact ⟨⟨v, blk_far hv1 (by show gr ≠ g; omega) x, Kd.S_far hv2 (fun k hk => hk) x⟩, fun k hk => blk_far (hks' k hk) (by have := hkl k hk; show k.1 ≠ g; omega) x, below_set hb' (by have := hb.size; omega)⟩
  · rintro e w' ⟨rfl, g, hg, ⟨v, h1, h2⟩, h3, h4⟩
    exact ⟨rfl, ⟨v, h1, Kd.S_mono h2 (fun _ _ => trivial)⟩, h3, h4⟩
/-- One number in new memory. -/
theorem one_C (W : World) (p : Int) : Kd.C (Kd.int .i64) (W.alloc (.cells #[.int .i64 p] 2)) (some ⟨W.heap.size, 0, none⟩) 1 [p] := by
  have h : Kd.R (Kd.int .i64) 2 (W.alloc (.cells #[.int .i64 p] 2)) 0 (fun _ => True) (.slice (some ⟨W.heap.size, 0, none⟩) 1 1) [p] := R_of_own ⟨rfl, .inr ⟨W.heap.size, 1, #[.int .i64 p], rfl, Nat.zero_le _, blk_new W _, Nat.le_refl _, by unfold maxLen; omega, rfl, rfl⟩⟩ (fun _ _ => trivial)
  exact (R_reads' h).2.2
end Go.Proofs.Ytdahdeohmbadhaa.TCur
