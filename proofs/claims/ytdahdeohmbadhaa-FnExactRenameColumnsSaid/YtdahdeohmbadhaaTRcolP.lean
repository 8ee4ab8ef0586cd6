/- RenameColumns: what the program and the reference tell, in plain words; their contracts. -/
import Derived.Test.YtdahdeohmbadhaaTRcolI
import Derived.Test.YtdahdeohmbadhaaTRcolS
import Derived.Test.YtdahdeohmbadhaaSHas
import Derived.Test.YtdahdeohmbadhaaTGath
namespace Go.Proofs.Ytdahdeohmbadhaa.TRcol
open Go.RowKit Go.Lib Go.Proofs Go.Proofs.YtdahdeohmbadhaaW.PrintWords Go.Proofs.YtdahdeohmbadhaaW.PrintWords.Kd Go.Proofs.YtdahdeohmbadhaaW.PrintLast Go.Proofs.YtdahdeohmbadhaaW.PrintMore Go.Proofs.Ytdahdeohmbadhaa.G Go.Proofs.Ytdahdeohmbadhaa.Fam Go.Proofs.Ytdahdeohmbadhaa.Loops Go.Proofs.Ytdahdeohmbadhaa.MarkT Go.Proofs.Ytdahdeohmbadhaa.TSort Go.Proofs.Ytdahdeohmbadhaa.TCmp Go.Proofs.Ytdahdeohmbadhaa.TLess Go.Proofs.Ytdahdeohmbadhaa.TShape Go.Proofs.Ytdahdeohmbadhaa.TOk Go.Proofs.Ytdahdeohmbadhaa.TValid Go.Proofs.Ytdahdeohmbadhaa.TMerge Go.Proofs.Ytdahdeohmbadhaa.ExTC Go.Proofs.Ytdahdeohmbadhaa.TMade Go.Proofs.Ytdahdeohmbadhaa.TGather Go.Proofs.Ytdahdeohmbadhaa.TRenC Go.Proofs.Ytdahdeohmbadhaa.TOrd Go.Proofs.Ytdahdeohmbadhaa.TRcolI Go.Proofs.Ytdahdeohmbadhaa.TRcolS Go.Proofs.Ytdahdeohmbadhaa.SHas
set_option linter.unusedVariables false
set_option linter.unusedSimpArgs false

/-- What is made of rows. -/
def outV (n : Int) (z : List Int) (rs : List Row) : Int × List Int × List Row × Int := if ShapeOk n z rs then (n, z, rs.mergeSort leT, 0) else (0, [], [], 3)
theorem limit_is (n : Int) (z : List Int) (rs : List Row) (hz : z.length ≤ 1048576) (h : FewR rs) : Ev (fun k => impl_tableOrLimit.f k n z rs) (outV n z rs) := by
  unfold impl_tableOrLimit.f outV
  refine Ev.bind (gather_is n z rs hz h) ?_
  obtain ⟨r, hE, hr⟩ := valid_is n z (rs.mergeSort leT) (fun g hg => Nat.le_trans ((few_sort h).2 g hg) (by decide))
  refine Ev.bind hE ?_
  rw [tabOk_sort] at hr
  by_cases hs : ShapeOk n z rs
  · rw [if_pos hs]
    simp only [if_pos (hr.2 hs)]
    exact Ev.now _
  · rw [if_neg hs]
    simp only [if_neg (fun h2 => hs (hr.1 h2))]
    exact Ev.now _
theorem has_ev (g : List Int) (x : Int) (hl : g.length ≤ 9223372036854775807) : Ev (fun k => spec_l00Has.f k g x) (decide (x ∈ g)) := by
  have h := shas_loop g x hl g.length 0 (Nat.zero_le _) rfl
  rw [List.drop_zero] at h
  exact h
/-- A row, its holders in another order. -/
def rowP (ord : List Int) (r : Row) : Row := ⟨r.f0, pickL r.f1 ord⟩
def renV (n : Int) (sz : List Int) (rs : List Row) (ord : List Int) : Int × List Int × List Row × Int :=
  if TabOk n sz rs then (if OrdOk sz.length ord then outV n (pickL sz ord) (rs.map (rowP ord)) else (0, [], [], 2)) else (0, [], [], 1)
theorem pick_len (l ord : List Int) : (pickL l ord).length = ord.length := List.length_map _
theorem ren_of {l ord : List Int} (h : OrdOk l.length ord) (hl : l.length ≤ 7) : renF l ord = some (pickL l ord) := if_pos ⟨all_in h.1 h.2, by rw [h.1]; omega⟩
theorem few_row {n : Int} {sz : List Int} {rs : List Row} {ord : List Int} (hT : TabOk n sz rs) (ho : OrdOk sz.length ord) : FewR (rs.map (rowP ord)) := by
  have h1 := hT.1.2.1
  have h2 := hT.1.2.2.1
  refine ⟨by rw [List.length_map]; omega, fun g hg => ?_⟩
  obtain ⟨r, hr, rfl⟩ := List.mem_map.1 hg
  show (pickL r.f1 ord).length ≤ 1048576
  rw [pick_len, ho.1]
  omega
theorem row_ord {n : Int} {sz : List Int} {rs : List Row} {ord : List Int} (hT : TabOk n sz rs) (ho : OrdOk sz.length ord) {r : Row} (hr : r ∈ rs) : renF r.f1 ord = some (pickL r.f1 ord) := by
  have hl : r.f1.length = sz.length := (hT.1.2.2.2.2 r hr).2.1
  exact ren_of (by rw [hl]; exact ho) (by rw [hl]; exact hT.1.2.1.2)
theorem row_snoc {rs : List Row} {ord : List Int} {i : Nat} (h : i < rs.length) : (rs.take i).map (rowP ord) ++ [(⟨rs[i].f0, pickL rs[i].f1 ord⟩ : Row)] = (rs.take (i + 1)).map (rowP ord) := by
  rw [List.take_succ_eq_append_getElem h, List.map_append]
  rfl
theorem impl_is (n : Int) (sz : List Int) (rs : List Row) (ord : List Int) (hg : ∀ r ∈ rs, r.f1.length ≤ 9223372036854775807) : Ev (fun k => impl_RenameColumns.f k n sz rs ord) (renV n sz rs ord) := by
  unfold impl_RenameColumns.f renV
  obtain ⟨b, hE, hb⟩ := valid_is n sz rs hg
  refine Ev.bind hE ?_
  by_cases hT : TabOk n sz rs
  · rw [if_pos hT]
    simp only [if_pos (hb.2 hT)]
    have h1 := hT.1.2.1
    have h2 := hT.1.2.2.1
    have hio : impl_isOrder.f (sz.length : Int) ord = some (decide (OrdOk sz.length ord)) := by
      unfold impl_isOrder.f
      rw [if_pos (by omega), Int.toNat_natCast]
    simp only [hio, Option.bind_some]
    by_cases ho : OrdOk sz.length ord
    · rw [if_pos ho]
      simp only [decide_eq_true ho, if_true]
      have hloop : ∀ (d i : Nat), i ≤ rs.length → rs.length - i = d → Ev (fun k => impl_RenameColumns.l0 k ord ((rs.take i).map (rowP ord)) rs (rs.length : Int) (i : Int) n sz rs) (outV n (pickL sz ord) (rs.map (rowP ord))) := by
        intro d
        induction d with
        | zero =>
          intro i hi hd
          obtain rfl : i = rs.length := by omega
          rw [List.take_length]
          refine Ev.step (f := fun k => (impl_tableOrLimit.f k n (pickL sz ord) (rs.map (rowP ord))).bind fun b => some (b.1, b.2.1, b.2.2.1, b.2.2.2)) (fun k => ?_) (Ev.bind (limit_is n (pickL sz ord) _ (by rw [pick_len, ho.1]; omega) (few_row hT ho)) (Ev.now _))
          simp only [impl_RenameColumns.l0]
          refine (if_neg (by omega)).trans ?_
          rw [ren_of ho h1.2, Option.bind_some]
        | succ d ih =>
          intro i hi hd
          have hlt : i < rs.length := by omega
          have h3 := ih (i + 1) (by omega) (by omega)
          have hw : wrap64 ((i : Int) + 1) = ((i + 1 : Nat) : Int) := by rw [wrap_id (by omega) (by omega)]; omega
          refine Ev.step (fun k => ?_) h3
          simp only [impl_RenameColumns.l0]
          refine (if_pos (by omega)).trans ((if_pos (by omega)).trans ((if_pos (by omega)).trans ?_))
          rw [rdW rs hlt, row_ord hT ho (List.getElem_mem hlt), Option.bind_some, hw, ← row_snoc hlt]
          exact if_pos (by rw [List.length_map, List.length_take]; omega)
      exact hloop rs.length 0 (Nat.zero_le _) (by omega)
    · rw [if_neg ho]
      simp only [decide_eq_false ho, Bool.false_eq_true, if_false]
      exact Ev.now _
  · rw [if_neg hT]
    simp only [if_neg (fun h => hT (hb.1 h))]
    exact Ev.now _
theorem spec_is (n : Int) (sz : List Int) (rs : List Row) (ord : List Int) (hol : ord.length ≤ 9223372036854775807) : Ev (fun k => spec_RenameColumns.f k n sz rs ord) (renV n sz rs ord) := by
  unfold spec_RenameColumns.f renV okF
  simp only [Option.bind_some, decide_eq_true_eq]
  by_cases hT : TabOk n sz rs
  · simp only [if_pos hT]
    have h1 := hT.1.2.1
    have h2 := hT.1.2.2.1
    by_cases hl : ord.length = sz.length
    · simp only [if_pos (show (ord.length : Int) = (sz.length : Int) by omega)]
      have H2 : OrdOk sz.length ord → Ev (fun k => spec_RenameColumns.l2 k ord (pickL sz ord) [] 0 n sz rs) (outV n (pickL sz ord) (rs.map (rowP ord))) := by
        intro ho
        have hloop : ∀ (d i : Nat), i ≤ rs.length → rs.length - i = d → Ev (fun k => spec_RenameColumns.l2 k ord (pickL sz ord) ((rs.take i).map (rowP ord)) (i : Int) n sz rs) (outV n (pickL sz ord) (rs.map (rowP ord))) := by
          intro d
          induction d with
          | zero =>
            intro i hi hd
            obtain rfl : i = rs.length := by omega
            rw [List.take_length]
            refine Ev.step (f := fun _ => some (outV n (pickL sz ord) (rs.map (rowP ord)))) (fun k => ?_) (Ev.now _)
            simp only [spec_RenameColumns.l2]
            refine (if_neg (by omega)).trans ?_
            unfold tailG outV
            exact if_pos (by rw [List.length_map]; omega)
          | succ d ih =>
            intro i hi hd
            have hlt : i < rs.length := by omega
            have h3 := ih (i + 1) (by omega) (by omega)
            have hw : wrap64 ((i : Int) + 1) = ((i + 1 : Nat) : Int) := by rw [wrap_id (by omega) (by omega)]; omega
            refine Ev.step (fun k => ?_) h3
            simp only [spec_RenameColumns.l2]
            refine (if_pos (by omega)).trans ((if_pos (by omega)).trans ?_)
            rw [rdW rs hlt, row_ord hT ho (List.getElem_mem hlt), Option.bind_some, hw, ← row_snoc hlt]
            exact if_pos (by rw [List.length_map, List.length_take]; omega)
        exact hloop rs.length 0 (Nat.zero_le _) (by omega)
      have H1 : OrdOk sz.length ord → Ev (fun k => spec_RenameColumns.l1 k ord [] 0 n sz rs) (outV n (pickL sz ord) (rs.map (rowP ord))) := by
        intro ho
        have hloop : ∀ (d i : Nat), i ≤ ord.length → ord.length - i = d → Ev (fun k => spec_RenameColumns.l1 k ord (pickL sz (ord.take i)) (i : Int) n sz rs) (outV n (pickL sz ord) (rs.map (rowP ord))) := by
          intro d
          induction d with
          | zero =>
            intro i hi hd
            obtain rfl : i = ord.length := by omega
            rw [List.take_length]
            refine Ev.step (fun k => ?_) (H2 ho)
            simp only [spec_RenameColumns.l1]
            exact if_neg (by omega)
          | succ d ih =>
            intro i hi hd
            have hlt : i < ord.length := by omega
            have h3 := ih (i + 1) (by omega) (by omega)
            have hw : wrap64 ((i : Int) + 1) = ((i + 1 : Nat) : Int) := by rw [wrap_id (by omega) (by omega)]; omega
            have hin := all_in ho.1 ho.2 _ (List.getElem_mem hlt)
            have hrd : rd ord (i : Int) = ord[i] := by simp [rd, List.getD, List.getElem?_eq_getElem hlt]
            rw [← hrd] at hin
            rw [pick_snoc hlt] at h3
            refine Ev.step (fun k => ?_) h3
            simp only [spec_RenameColumns.l1]
            refine (if_pos (by omega)).trans ((if_pos (by omega)).trans ((if_pos hin.1).trans ((if_pos hin.2).trans ((if_pos ?_).trans ?_))))
            · rw [pick_len, List.length_take]
              omega
            · rw [hw]
        exact hloop ord.length 0 (Nat.zero_le _) (by omega)
      have H0 : ∀ (d i : Nat), i ≤ sz.length → sz.length - i = d → (∀ j : Nat, j < i → (j : Int) ∈ ord) → Ev (fun k => spec_RenameColumns.l0 k ord (i : Int) n sz rs) (if OrdOk sz.length ord then outV n (pickL sz ord) (rs.map (rowP ord)) else (0, [], [], 2)) := by
        intro d
        induction d with
        | zero =>
          intro i hi hd hall
          obtain rfl : i = sz.length := by omega
          have ho : OrdOk sz.length ord := ⟨hl, hall⟩
          rw [if_pos ho]
          refine Ev.step (fun k => ?_) (H1 ho)
          simp only [spec_RenameColumns.l0]
          exact if_neg (by omega)
        | succ d ih =>
          intro i hi hd hall
          have hlt : i < sz.length := by omega
          have hw : wrap64 ((i : Int) + 1) = ((i + 1 : Nat) : Int) := by rw [wrap_id (by omega) (by omega)]; omega
          refine Ev.step (f := fun k => (spec_l00Has.f k ord (i : Int)).bind fun t => if t = true then spec_RenameColumns.l0 k ord ((i + 1 : Nat) : Int) n sz rs else some (0, [], [], 2)) (fun k => ?_) (Ev.bind (has_ev ord (i : Int) hol) ?_)
          · simp only [spec_RenameColumns.l0]
            rw [if_pos (by omega), hw]
          · by_cases hm : (i : Int) ∈ ord
            · simp only [decide_eq_true hm, if_true]
              exact ih (i + 1) (by omega) (by omega) (fun j hj => by
                by_cases e : j = i
                · subst e; exact hm
                · exact hall j (by omega))
            · simp only [decide_eq_false hm, Bool.false_eq_true, if_false]
              rw [if_neg (fun h => hm (h.2 i hlt))]
              exact Ev.now _
      exact H0 sz.length 0 (Nat.zero_le _) (by omega) (fun j hj => absurd hj (Nat.not_lt_zero _))
    · have ho : ¬ OrdOk sz.length ord := fun h => hl h.1
      simp only [if_neg (show ¬ (ord.length : Int) = (sz.length : Int) by omega), if_neg ho]
      exact Ev.now _
  · simp only [if_neg hT]
    exact Ev.now _

/-! ### contracts -/
def RenRes (W : World) (n : Int) (sz : List Int) (rs : List Row) (ord : List Int) : Ending → World → Prop := TabRes W (renV n sz rs ord).1 (renV n sz rs ord).2.1 (renV n sz rs ord).2.2.1 (renV n sz rs ord).2.2.2
theorem specRen_calls (n : Int) (B : Option Addr) (d : Nat) (sz : List Int) (A : Option Addr) (c : Nat) (rs : List Row) (A1 : Option Addr) (c1 : Nat) (ord : List Int) (w : World) (hB : Kd.C (Kd.int .i64) w B sz.length sz) (hd : sz.length ≤ d) (hC : Kd.C dW w A rs.length rs) (hc : rs.length ≤ c) (h1 : Kd.C (Kd.int .i64) w A1 ord.length ord) (hc1 : ord.length ≤ c1) :
    Calls Try.prog 39 #[.agg #[.int .i64 n, .slice B sz.length d, .slice A rs.length c], .slice A1 ord.length c1] w (RenRes w n sz rs ord) := by
  obtain ⟨k, hk⟩ := (spec_is n sz rs ord h1.2.1).rounds
  exact spec_RenameColumns.calls k n B d sz A c rs A1 c1 ord _ _ _ _ w hB hd hC hc h1 hc1 hk
theorem implRen_calls (n : Int) (B : Option Addr) (d : Nat) (sz : List Int) (A : Option Addr) (c : Nat) (rs : List Row) (A1 : Option Addr) (c1 : Nat) (ord : List Int) (w : World) (hB : Kd.C (Kd.int .i64) w B sz.length sz) (hd : sz.length ≤ d) (hC : Kd.C dW w A rs.length rs) (hc : rs.length ≤ c) (h1 : Kd.C (Kd.int .i64) w A1 ord.length ord) (hc1 : ord.length ≤ c1) :
    Calls Try.prog 40 #[.agg #[.int .i64 n, .slice B sz.length d, .slice A rs.length c], .slice A1 ord.length c1] w (RenRes w n sz rs ord) := by
  obtain ⟨k, hk⟩ := (impl_is n sz rs ord (lens_R hC).2).rounds
  exact impl_RenameColumns.calls k n B d sz A c rs A1 c1 ord _ _ _ _ w hB hd hC hc h1 hc1 hk
/-- What is told is small. -/
theorem ren_small (n : Int) (sz : List Int) (rs : List Row) (ord : List Int) : 1 + ((renV n sz rs ord).2.1.length : Int) + (totT (renV n sz rs ord).2.2.1 : Int) < 9223372036854775807 := by
  unfold renV
  by_cases hT : TabOk n sz rs
  · rw [if_pos hT]
    by_cases ho : OrdOk sz.length ord
    · rw [if_pos ho]
      unfold outV
      by_cases hs : ShapeOk n (pickL sz ord) (rs.map (rowP ord))
      · rw [if_pos hs]
        have := shape_tot hs
        show 1 + ((pickL sz ord).length : Int) + (totT ((rs.map (rowP ord)).mergeSort leT) : Int) < _
        omega
      · rw [if_neg hs]
        simp [totT]
    · rw [if_neg ho]
      simp [totT]
  · rw [if_neg hT]
    simp [totT]
end Go.Proofs.Ytdahdeohmbadhaa.TRcol
