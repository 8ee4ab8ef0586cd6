/- What the program's dropped tells, in plain words: rows of a table that are kept, without a holder. -/
import Derived.Test.YtdahdeohmbadhaaTGath
import Derived.Test.YtdahdeohmbadhaaTCol
import Derived.Test.YtdahdeohmbadhaaTWithout
import Derived.Test.YtdahdeohmbadhaaGx9
import Derived.Test.YtdahdeohmbadhaaGx8
import Derived.Test.YtdahdeohmbadhaaGx8
namespace Go.Proofs.Ytdahdeohmbadhaa.TDrop
open Go.RowKit Go.Lib Go.Proofs Go.Proofs.YtdahdeohmbadhaaW.PrintWords Go.Proofs.YtdahdeohmbadhaaW.PrintWords.Kd Go.Proofs.YtdahdeohmbadhaaW.PrintLast Go.Proofs.YtdahdeohmbadhaaW.PrintMore Go.Proofs.Ytdahdeohmbadhaa.G Go.Proofs.Ytdahdeohmbadhaa.Fam Go.Proofs.Ytdahdeohmbadhaa.Loops Go.Proofs.Ytdahdeohmbadhaa.MarkT Go.Proofs.Ytdahdeohmbadhaa.TSort Go.Proofs.Ytdahdeohmbadhaa.TCmp Go.Proofs.Ytdahdeohmbadhaa.TLess Go.Proofs.Ytdahdeohmbadhaa.TShape Go.Proofs.Ytdahdeohmbadhaa.TOk Go.Proofs.Ytdahdeohmbadhaa.TValid Go.Proofs.Ytdahdeohmbadhaa.TMerge Go.Proofs.Ytdahdeohmbadhaa.ExTC Go.Proofs.Ytdahdeohmbadhaa.TMade Go.Proofs.Ytdahdeohmbadhaa.TGather Go.Proofs.Ytdahdeohmbadhaa.TCol
set_option linter.unusedVariables false
set_option linter.unusedSimpArgs false

/-- A list without an element. -/
def cutL (l : List Int) (h : Nat) : List Int := l.take h ++ l.drop (h + 1)
/-- A row without a holder's share. -/
def wo (h : Nat) (r : Row) : Row := ⟨r.f0, cutL r.f1 h⟩
theorem cutL_len (l : List Int) (h : Nat) : (cutL l h).length ≤ l.length := by unfold cutL; rw [List.length_append, List.length_take, List.length_drop]; omega
theorem without_is (l : List Int) (h : Nat) (hh : h < l.length) (hl : l.length ≤ 1048576) : impl_without.f l (h : Int) = some (cutL l h) := by
  show Go.Proofs.Ytdahdeohmbadhaa.TWithout.WithoutF l (h : Int) = _
  unfold Go.Proofs.Ytdahdeohmbadhaa.TWithout.WithoutF cutL
  rw [if_pos ⟨by omega, by omega, hl⟩, Int.toNat_natCast]
theorem lwithout_is (l : List Int) (h : Nat) (hh : h < l.length) (hl : l.length ≤ 1048576) : spec_l06Without.f l (h : Int) = some (cutL l h) := by
  have hw : wrap64 ((h : Int) + 1) = ((h + 1 : Nat) : Int) := by rw [wrap_id (by omega) (by omega)]; omega
  unfold spec_l06Without.f cutL
  rw [hw, Int.toNat_natCast, Int.toNat_natCast]
  refine (if_pos (by omega)).trans ((if_pos (by omega)).trans ?_)
  rw [own_is _ (by rw [List.length_take]; omega), Option.bind_some]
  exact (if_pos (by omega)).trans ((if_pos (by omega)).trans (if_pos (by rw [List.length_take, List.length_drop]; omega)))
theorem limit_is (n : Int) (z : List Int) (rs : List Row) (hz : z.length ≤ 1048576) (h : FewR rs) : Ev (fun k => impl_tableOrLimit.f k n z rs) (if ShapeOk n z rs then (n, z, rs.mergeSort leT, 0) else (0, [], [], 3)) := by
  unfold impl_tableOrLimit.f
  refine Ev.bind (gather_is n z rs hz h) ?_
  obtain ⟨r, hE, hr⟩ := valid_is n z (rs.mergeSort leT) (fun g hg => Nat.le_trans ((few_sort h).2 g hg) (by decide))
  refine Ev.bind hE ?_
  rw [tabOk_sort] at hr
  by_cases hs : ShapeOk n z rs
  · rw [if_pos hs]
    simp only [if_pos (hr.2 hs)]
    exact Ev.now _
  · rw [if_neg hs]
    simp only [if_neg (fun h2 => hs (hr.1 h2))]
    exact Ev.now _
theorem code_zero {n : Int} {sz : List Int} {rs : List Row} {h : Int} : colCode n sz rs h = 0 ↔ TabOk n sz rs ∧ (0 ≤ h ∧ h < (sz.length : Int)) ∧ sz.length ≠ 1 := by
  unfold colCode
  by_cases h1 : TabOk n sz rs
  · have hl : sz.length ≤ 7 := by have := h1.1.2.1; omega
    have hw : wrap64 ((sz.length : Int) - 1) = (sz.length : Int) - 1 := wrap_id (by omega) (by omega)
    rw [if_pos h1, hw]
    by_cases h2 : (0 ≤ h ∧ h ≤ (sz.length : Int) - 1) ∧ (sz.length : Int) ≠ 1
    · rw [if_pos h2]
      exact ⟨fun _ => ⟨h1, ⟨by omega, by omega⟩, by omega⟩, fun _ => rfl⟩
    · rw [if_neg h2]
      exact ⟨fun h3 => absurd h3 (by decide), fun h3 => absurd ⟨⟨h3.2.1.1, by omega⟩, by omega⟩ h2⟩
  · rw [if_neg h1]
    exact ⟨fun h3 => absurd h3 (by decide), fun h3 => absurd h3.1 h1⟩
theorem col_is (n : Int) (sz : List Int) (rs : List Row) (h : Int) (hg : ∀ r ∈ rs, r.f1.length ≤ 9223372036854775807) : Ev (fun k => impl_columnCode.f k n sz rs h) (colCode n sz rs h) := by
  unfold impl_columnCode.f
  obtain ⟨r, hE, hr⟩ := valid_is n sz rs hg
  refine Ev.bind hE ?_
  unfold colCode
  by_cases h1 : TabOk n sz rs
  · simp only [if_pos (hr.2 h1), if_pos h1, within_is, Option.bind_some]
    by_cases h2 : 0 ≤ h ∧ h ≤ wrap64 ((sz.length : Int) - 1)
    · simp only [decide_eq_true h2, if_true]
      by_cases h3 : (sz.length : Int) = 1
      · simp only [if_pos h3, if_neg (show ¬ ((0 ≤ h ∧ h ≤ wrap64 ((sz.length : Int) - 1)) ∧ (sz.length : Int) ≠ 1) from fun h4 => h4.2 h3)]
        exact Ev.now _
      · simp only [if_neg h3, if_pos (show (0 ≤ h ∧ h ≤ wrap64 ((sz.length : Int) - 1)) ∧ (sz.length : Int) ≠ 1 from ⟨h2, h3⟩)]
        exact Ev.now _
    · simp only [decide_eq_false h2, Bool.false_eq_true, if_false, if_neg (show ¬ ((0 ≤ h ∧ h ≤ wrap64 ((sz.length : Int) - 1)) ∧ (sz.length : Int) ≠ 1) from fun h4 => h2 h4.1)]
      exact Ev.now _
  · simp only [if_neg h1, if_neg (fun h2 => h1 (hr.1 h2))]
    exact Ev.now _
/-- What is made of rows. -/
def outV (n : Int) (z : List Int) (rs : List Row) : Int × List Int × List Row × Int := if ShapeOk n z rs then (n, z, rs.mergeSort leT, 0) else (0, [], [], 3)
theorem len_of {n : Int} {sz : List Int} {rs : List Row} (hT : TabOk n sz rs) {r : Row} (hr : r ∈ rs) : r.f1.length = sz.length := (hT.1.2.2.2.2 r hr).2.1
theorem few_wo {n : Int} {sz : List Int} {rs : List Row} (hT : TabOk n sz rs) (h : Nat) {xs : List Row} (hx : ∀ r ∈ xs, r ∈ rs) (hl : xs.length ≤ rs.length) : FewR (xs.map (wo h)) := by
  have h1 := hT.1.2.1
  have h2 := hT.1.2.2.1
  refine ⟨by rw [List.length_map]; omega, fun g hg => ?_⟩
  obtain ⟨r, hr, rfl⟩ := List.mem_map.1 hg
  have h3 := len_of hT (hx r hr)
  have h4 := cutL_len r.f1 h
  show (cutL r.f1 h).length ≤ 1048576
  omega
theorem dropped_is (n : Int) (sz : List Int) (rs : List Row) (h : Nat) (v : Int) (p : Row → Bool) (hT : TabOk n sz rs) (hh : h < sz.length) (hk : ∀ r ∈ rs, spec_l00Max.f r.f0 r.f1 (h : Int) v = some (p r)) :
    Ev (fun k => impl_Table_dropped.f k n sz rs (h : Int) v) (if (rs.filter p).map (wo h) = [] then (0, [], [], 2) else outV n (cutL sz h) ((rs.filter p).map (wo h))) := by
  have h1 := hT.1.2.1
  have h2 := hT.1.2.2.1
  have hloop : ∀ (d i : Nat), i ≤ rs.length → rs.length - i = d → Ev (fun k => impl_Table_dropped.l0 k (h : Int) v (((rs.take i).filter p).map (wo h)) rs (rs.length : Int) (i : Int) n sz rs) (if (rs.filter p).map (wo h) = [] then (0, [], [], 2) else outV n (cutL sz h) ((rs.filter p).map (wo h))) := by
    intro d
    induction d with
    | zero =>
      intro i hi hd
      obtain rfl : i = rs.length := by omega
      rw [List.take_length]
      have hfew := few_wo hT h (xs := rs.filter p) (fun r hr => (List.mem_filter.1 hr).1) (List.length_filter_le _ _)
      generalize (rs.filter p).map (wo h) = ms at *
      by_cases he : ms = []
      · subst he
        rw [if_pos rfl]
        exact Ev.step (f := fun _ => some (0, [], [], 2)) (fun k => by simp only [impl_Table_dropped.l0]; exact (if_neg (by omega)).trans (if_pos rfl)) (Ev.now _)
      · rw [if_neg he]
        have hpos : ¬ (ms.length : Int) = 0 := fun e => he (List.length_eq_zero_iff.1 (by omega))
        refine Ev.step (f := fun k => (impl_tableOrLimit.f k n (cutL sz h) ms).bind fun b => some (b.1, b.2.1, b.2.2.1, b.2.2.2)) (fun k => ?_) (Ev.bind (limit_is n (cutL sz h) ms (by have := cutL_len sz h; omega) hfew) (Ev.now _))
        simp only [impl_Table_dropped.l0]
        refine (if_neg (by omega)).trans ((if_neg hpos).trans ?_)
        rw [without_is sz h hh (by omega), Option.bind_some]
    | succ d ih =>
      intro i hi hd
      have hlt : i < rs.length := by omega
      have h3 := ih (i + 1) (by omega) (by omega)
      have hmem := List.getElem_mem hlt
      have hlen := len_of hT hmem
      have hw : wrap64 ((i : Int) + 1) = ((i + 1 : Nat) : Int) := by rw [wrap_id (by omega) (by omega)]; omega
      have hkr := hk rs[i] hmem
      have hll : (((rs.take i).filter p).map (wo h)).length ≤ i := by
        rw [List.length_map]
        have := List.length_filter_le p (rs.take i)
        rw [List.length_take] at this
        omega
      rw [List.take_succ_eq_append_getElem hlt, List.filter_append, List.map_append] at h3
      refine Ev.step (fun k => ?_) h3
      simp only [impl_Table_dropped.l0]
      refine (if_pos (Int.ofNat_lt.2 hlt)).trans ((if_pos (Int.natCast_nonneg i)).trans ((if_pos (Int.ofNat_lt.2 hlt)).trans ?_))
      rw [rdW rs hlt, hkr, Option.bind_some]
      cases hp : p rs[i] with
      | true =>
        refine (if_pos rfl).trans ?_
        rw [without_is rs[i].f1 h (by omega) (by omega), Option.bind_some]
        refine (if_pos (by omega)).trans ?_
        rw [hw]
        simp only [List.filter_cons, hp, if_true, List.filter_nil, List.map_cons, List.map_nil]
        rfl
      | false =>
        refine (if_neg (by decide)).trans ?_
        rw [hw]
        simp only [List.filter_cons, hp, Bool.false_eq_true, if_false, List.filter_nil, List.map_nil, List.append_nil]
  have := hloop rs.length 0 (Nat.zero_le _) rfl
  rw [List.take_zero, List.filter_nil, List.map_nil] at this
  exact this
theorem tail_is (n : Int) (sz : List Int) (h : Nat) (rs : List Row) (hh : h < sz.length) (hz : sz.length ≤ 1048576) (hl : rs.length ≤ 1048576) : tailF n sz (h : Int) rs = some (outV n (cutL sz h) rs) := by
  unfold tailF
  rw [lwithout_is sz h hh hz, Option.bind_some, if_pos hl]
  rfl
end Go.Proofs.Ytdahdeohmbadhaa.TDrop
