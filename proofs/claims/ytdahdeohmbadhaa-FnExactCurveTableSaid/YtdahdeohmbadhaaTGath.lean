/- What the program's gather and the reference's copies tell, in plain words. -/
import Derived.Test.YtdahdeohmbadhaaTMade
import Derived.Test.YtdahdeohmbadhaaTValid
import Derived.Test.YtdahdeohmbadhaaGx7
namespace Go.Proofs.Ytdahdeohmbadhaa.TGather
open Go.RowKit Go.Lib Go.Proofs Go.Proofs.YtdahdeohmbadhaaW.PrintWords Go.Proofs.YtdahdeohmbadhaaW.PrintWords.Kd Go.Proofs.YtdahdeohmbadhaaW.PrintLast Go.Proofs.YtdahdeohmbadhaaW.PrintMore Go.Proofs.Ytdahdeohmbadhaa.G Go.Proofs.Ytdahdeohmbadhaa.Fam Go.Proofs.Ytdahdeohmbadhaa.Loops Go.Proofs.Ytdahdeohmbadhaa.MarkT Go.Proofs.Ytdahdeohmbadhaa.TSort Go.Proofs.Ytdahdeohmbadhaa.TCmp Go.Proofs.Ytdahdeohmbadhaa.TLess Go.Proofs.Ytdahdeohmbadhaa.TShape Go.Proofs.Ytdahdeohmbadhaa.TOk Go.Proofs.Ytdahdeohmbadhaa.TValid Go.Proofs.Ytdahdeohmbadhaa.TMerge Go.Proofs.Ytdahdeohmbadhaa.ExTC Go.Proofs.Ytdahdeohmbadhaa.TMade
set_option linter.unusedVariables false
set_option linter.unusedSimpArgs false

/-- Not too many rows. -/
def FewR (rs : List Row) : Prop := rs.length ≤ 1048576 ∧ ∀ g ∈ rs, g.f1.length ≤ 1048576
theorem own_is (l : List Int) (hl : l.length ≤ 1048576) : spec_l00Own.f l = some l := by
  unfold spec_l00Own.f
  rw [Option.bind_some]
  refine (if_pos ?_).trans ?_
  · simp; omega
  · simp
theorem rdW (rs : List Row) {i : Nat} (hi : i < rs.length) : rd_T87 rs (i : Int) = rs[i] := by simp [rd_T87, List.getD, hi]
theorem take_snoc {rs : List Row} {i : Nat} (hi : i < rs.length) : rs.take i ++ [(⟨rs[i].f0, rs[i].f1⟩ : Row)] = rs.take (i + 1) := by
  rw [List.take_succ_eq_append_getElem hi]
theorem cloneF_is (l : List Int) (hl : l.length ≤ 1048576) : slices_Clone_int64_int64.f l = some l := if_pos (by omega)
theorem gather_is (n : Int) (sz : List Int) (rs : List Row) (hz : sz.length ≤ 1048576) (h : FewR rs) : Ev (fun k => impl_gather.f k n sz rs) (n, sz, rs.mergeSort leT) := by
  have hloop : ∀ (d i : Nat), i ≤ rs.length → rs.length - i = d → Ev (fun k => impl_gather.l0 k rs (rs.length : Int) (i : Int) n sz (rs.take i)) (n, sz, rs.mergeSort leT) := by
    intro d
    induction d with
    | zero =>
      intro i hi hd
      obtain rfl : i = rs.length := by omega
      have hl := h.1
      refine Ev.step (f := fun _ => some (n, sz, (rs.take rs.length).mergeSort leT)) (fun k => by simp only [impl_gather.l0]; exact (if_neg (by omega)).trans (if_pos (by rw [List.take_length]; omega))) ?_
      rw [List.take_length]
      exact Ev.now _
    | succ d ih =>
      intro i hi hd
      have hlt : i < rs.length := by omega
      have h1 := ih (i + 1) (by omega) (by omega)
      have hg := h.2 rs[i] (List.getElem_mem hlt)
      have hl := h.1
      have hw : wrap64 ((i : Int) + 1) = ((i + 1 : Nat) : Int) := by rw [wrap_id (by omega) (by omega)]; omega
      refine Ev.step (fun k => ?_) h1
      simp only [impl_gather.l0]
      refine (if_pos (Int.ofNat_lt.2 hlt)).trans ((if_pos (Int.natCast_nonneg i)).trans ((if_pos (Int.ofNat_lt.2 hlt)).trans ?_))
      rw [rdW rs hlt, cloneF_is _ hg, Option.bind_some]
      refine (if_pos ?_).trans ?_
      · rw [List.length_take]; omega
      · rw [hw, take_snoc hlt]
  have := hloop rs.length 0 (Nat.zero_le _) rfl
  rw [List.take_zero] at this
  unfold impl_gather.f
  rw [cloneF_is _ hz]
  exact this
theorem few_sort {rs : List Row} (h : FewR rs) : FewR (rs.mergeSort leT) := ⟨by rw [List.length_mergeSort]; exact h.1, fun g hg => h.2 g (List.mem_mergeSort.1 hg)⟩
theorem shape_sort (n : Int) (sz : List Int) (rs : List Row) : ShapeOk n sz (rs.mergeSort leT) ↔ ShapeOk n sz rs := by
  unfold ShapeOk
  rw [List.length_mergeSort]
  constructor
  · exact fun h => ⟨h.1, h.2.1, h.2.2.1, h.2.2.2.1, fun r hr => h.2.2.2.2 r (List.mem_mergeSort.2 hr)⟩
  · exact fun h => ⟨h.1, h.2.1, h.2.2.1, h.2.2.2.1, fun r hr => h.2.2.2.2 r (List.mem_mergeSort.1 hr)⟩
theorem tabOk_sort (n : Int) (sz : List Int) (rs : List Row) : TabOk n sz (rs.mergeSort leT) ↔ ShapeOk n sz rs := by
  refine ⟨fun h => (shape_sort n sz rs).1 h.1, fun h => ⟨(shape_sort n sz rs).2 h, fun i hi h0 hlt => ?_⟩⟩
  have hp := List.pairwise_iff_getElem.1 (List.pairwise_mergeSort leT_trans leT_total rs) (i - 1) i (by omega) hi (by omega)
  rw [getR hi, getR (show i - 1 < (rs.mergeSort leT).length by omega)] at hlt
  have h1 := (leT_iff _ _).1 hp
  have h2 := cmpT_neg (rs.mergeSort leT)[i - 1] (rs.mergeSort leT)[i]
  omega
theorem fewR_of' {rs : List Go.Proofs.Ytdahdeohmbadhaa.ExT.LRow} (h : FewT rs) : FewR (rs.map Go.Proofs.Ytdahdeohmbadhaa.ExT.toR) := ⟨by rw [List.length_map]; exact h.1, fun g hg => by
  obtain ⟨x, hx, rfl⟩ := List.mem_map.1 hg
  exact h.2 x hx⟩
theorem own_calls (A : Option Addr) (c : Nat) (l : List Int) (hl : l.length ≤ 1048576) (w : World) (h : Kd.C (Kd.int .i64) w A l.length l) (hc : l.length ≤ c) :
    Calls Try.prog 61 #[.slice A l.length c] w fun e w' => ∃ v, e = .returned v ∧ Kd.R (Kd.int .i64) 2 w' w.heap.size (fun _ => True) v l ∧ Below w.heap.size w w' :=
  spec_l00Own.calls A c l l w h hc (own_is l hl)
end Go.Proofs.Ytdahdeohmbadhaa.TGather
