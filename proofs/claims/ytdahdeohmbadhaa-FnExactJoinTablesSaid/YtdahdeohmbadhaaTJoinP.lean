/- Pairs of rows of two tables, in plain words: what the program's combine and the reference's l06Cross make. -/
import Derived.Test.YtdahdeohmbadhaaTGath
import Derived.Test.YtdahdeohmbadhaaGx9
import Derived.Test.YtdahdeohmbadhaaGx10
import Derived.Test.YtdahdeohmbadhaaGx7
namespace Go.Proofs.Ytdahdeohmbadhaa.TJoin
open Go.RowKit Go.Lib Go.Proofs Go.Proofs.YtdahdeohmbadhaaW.PrintWords Go.Proofs.YtdahdeohmbadhaaW.PrintWords.Kd Go.Proofs.YtdahdeohmbadhaaW.PrintLast Go.Proofs.YtdahdeohmbadhaaW.PrintMore Go.Proofs.Ytdahdeohmbadhaa.G Go.Proofs.Ytdahdeohmbadhaa.Fam Go.Proofs.Ytdahdeohmbadhaa.Loops Go.Proofs.Ytdahdeohmbadhaa.MarkT Go.Proofs.Ytdahdeohmbadhaa.TSort Go.Proofs.Ytdahdeohmbadhaa.TCmp Go.Proofs.Ytdahdeohmbadhaa.TLess Go.Proofs.Ytdahdeohmbadhaa.TShape Go.Proofs.Ytdahdeohmbadhaa.TOk Go.Proofs.Ytdahdeohmbadhaa.TValid Go.Proofs.Ytdahdeohmbadhaa.TMerge Go.Proofs.Ytdahdeohmbadhaa.ExTC Go.Proofs.Ytdahdeohmbadhaa.TMade Go.Proofs.Ytdahdeohmbadhaa.TGather
set_option linter.unusedVariables false
set_option linter.unusedSimpArgs false

/-- What is made of rows. -/
def outV (n : Int) (z : List Int) (rs : List Row) : Int × List Int × List Row × Int := if ShapeOk n z rs then (n, z, rs.mergeSort leT, 0) else (0, [], [], 3)
theorem out_long {n : Int} {z : List Int} {rs : List Row} (h : 700 < rs.length) : outV n z rs = (0, [], [], 3) := if_neg (fun h2 => by have := h2.2.2.1.2; omega)
theorem out_take (n : Int) (z : List Int) (rs : List Row) : outV n z (rs.take 701) = outV n z rs := by
  by_cases h : rs.length ≤ 700
  · rw [List.take_of_length_le (by omega)]
  · rw [out_long (rs := rs) (by omega), out_long (by rw [List.length_take]; omega)]
theorem limit_is (n : Int) (z : List Int) (rs : List Row) (hz : z.length ≤ 1048576) (h : FewR rs) : Ev (fun k => impl_tableOrLimit.f k n z rs) (outV n z rs) := by
  unfold impl_tableOrLimit.f outV
  refine Ev.bind (gather_is n z rs hz h) ?_
  obtain ⟨r, hE, hr⟩ := valid_is n z (rs.mergeSort leT) (fun g hg => Nat.le_trans ((few_sort h).2 g hg) (by decide))
  refine Ev.bind hE ?_
  rw [tabOk_sort] at hr
  by_cases hs : ShapeOk n z rs
  · rw [if_pos hs]
    simp only [if_pos (hr.2 hs)]
    exact Ev.now _
  · rw [if_neg hs]
    simp only [if_neg (fun h2 => hs (hr.1 h2))]
    exact Ev.now _

/-- Shares of a pair. -/
def mixA (zs a b : List Int) (h : Nat) : Int := wrap64 (wrap64 (a.getD h 0 * zs.getD h 0) + b.getD h 0)
def mixL (zs a b : List Int) : List Int := (List.range a.length).map (mixA zs a b)
/-- Sizes of pairs. -/
def mulA (sz zs : List Int) (h : Nat) : Int := wrap64 (sz.getD h 0 * zs.getD h 0)
def mulL (sz zs : List Int) : List Int := (List.range sz.length).map (mulA sz zs)
section
variable (sec : Int → Int → Int) (zs : List Int)
def mk (a b : Row) : Row := ⟨sec a.f0 b.f0, mixL zs a.f1 b.f1⟩
/-- Are the secrets alike? -/
def alike (a b : Row) : Bool := decide (a.f0 = b.f0)
/-- All pairs. -/
def allP (rs us : List Row) : List Row := rs.flatMap fun a => (us.filter (alike a)).map (mk sec zs a)
/-- Pairs of the first i rows, and of the next one with the first j. -/
def pre (rs us : List Row) (i j : Nat) : List Row := allP sec zs (rs.take i) us ++ ((us.take j).filter (alike (rs.getD i zW))).map (mk sec zs (rs.getD i zW))
theorem pre_zero (rs us : List Row) (i : Nat) : pre sec zs rs us i 0 = allP sec zs (rs.take i) us := by simp [pre]
theorem pre_all {rs us : List Row} {i : Nat} (h : i < rs.length) : pre sec zs rs us i us.length = pre sec zs rs us (i + 1) 0 := by
  rw [pre_zero]
  unfold pre allP
  rw [List.take_length, List.take_succ_eq_append_getElem h, List.flatMap_append]
  simp [List.getD, h]
theorem pre_snoc {rs us : List Row} {i j : Nat} (h : j < us.length) (he : alike (rs.getD i zW) us[j] = true) : pre sec zs rs us i (j + 1) = pre sec zs rs us i j ++ [mk sec zs (rs.getD i zW) us[j]] := by
  unfold pre
  rw [List.take_succ_eq_append_getElem h, List.filter_append, List.map_append, List.append_assoc, List.filter_cons_of_pos he]
  rfl
theorem pre_skip {rs us : List Row} {i j : Nat} (h : j < us.length) (he : alike (rs.getD i zW) us[j] = false) : pre sec zs rs us i (j + 1) = pre sec zs rs us i j := by
  unfold pre
  rw [List.take_succ_eq_append_getElem h, List.filter_append, List.filter_cons_of_neg (by rw [he]; exact Bool.false_ne_true), List.filter_nil, List.append_nil]
theorem pre_end (rs us : List Row) : pre sec zs rs us rs.length 0 = allP sec zs rs us := by rw [pre_zero, List.take_length]
theorem pre_split {rs us : List Row} {i j : Nat} (hi : i < rs.length) : ∃ rest, allP sec zs rs us = pre sec zs rs us i j ++ rest := by
  refine ⟨((us.drop j).filter (alike (rs.getD i zW))).map (mk sec zs (rs.getD i zW)) ++ allP sec zs (rs.drop (i + 1)) us, ?_⟩
  unfold pre
  rw [List.append_assoc, ← List.append_assoc (((us.take j).filter _).map _), ← List.map_append, ← List.filter_append, List.take_append_drop]
  have hg : rs.getD i zW = rs[i] := by simp [List.getD, hi]
  rw [hg]
  have : rs = rs.take i ++ (rs[i] :: rs.drop (i + 1)) := by rw [← List.drop_eq_getElem_cons hi, List.take_append_drop]
  conv => lhs; rw [this]
  unfold allP
  rw [List.flatMap_append, List.flatMap_cons]
theorem pre_grow {rs us : List Row} {i j : Nat} (hi : i < rs.length) : ∃ rest, pre sec zs rs us (i + 1) 0 = pre sec zs rs us i j ++ rest := by
  refine ⟨((us.drop j).filter (alike (rs.getD i zW))).map (mk sec zs (rs.getD i zW)), ?_⟩
  rw [← pre_all sec zs hi]
  unfold pre
  rw [List.append_assoc, ← List.map_append, ← List.filter_append, List.take_length, List.take_append_drop]
theorem mk_len (a b : Row) : (mk sec zs a b).f1.length = a.f1.length := by simp [mk, mixL]
theorem all_mem {rs us : List Row} {r : Row} (h : r ∈ allP sec zs rs us) : ∃ a ∈ rs, r.f1.length = a.f1.length := by
  obtain ⟨a, ha, hr⟩ := List.mem_flatMap.1 h
  obtain ⟨b, _, rfl⟩ := List.mem_map.1 hr
  exact ⟨a, ha, mk_len sec zs a b⟩
end
theorem range_snoc {β : Type} (f : Nat → β) (h : Nat) : (List.range (h + 1)).map f = (List.range h).map f ++ [f h] := by rw [List.range_succ, List.map_append]; rfl
theorem rdn (l : List Int) (h : Nat) : rd l (h : Int) = l.getD h 0 := rd_nat l h

/-! ### the program's -/
section
variable {sec : Int → Int → Int} {arg : Int} (hsec : ∀ a b, spec_l06Total.f a b arg = some (sec a b, decide (a = b))) (secrets m : Int) (sizes zs : List Int) (rs us : List Row) (L : Nat) (hL : L ≤ 7) (hzs : zs.length = L) (hrs : ∀ r ∈ rs, r.f1.length = L) (hus : ∀ r ∈ us, r.f1.length = L) (hrl : rs.length ≤ 700) (hul : us.length ≤ 700) (hsl : sizes.length ≤ 1048576)
include hsec hL hzs hrs hus hrl hul hsl
theorem combine_rows : ∀ (d i : Nat), i ≤ rs.length → rs.length - i = d → (pre sec zs rs us i 0).length ≤ 700 →
    Ev (fun k => impl_combine.l1 k secrets arg sizes (pre sec zs rs us i 0) rs (rs.length : Int) (i : Int) m zs us) (outV secrets sizes (allP sec zs rs us)) := by
  intro d
  induction d with
  | zero =>
    intro i hi hd hlen0
    have hlen := Aside0.mk hlen0
    clear hlen0
    obtain rfl : i = rs.length := by omega
    rw [pre_end] at hlen ⊢
    have hfew : FewR (allP sec zs rs us) := ⟨Nat.le_trans hlen.out (by decide), fun g hg => by
      obtain ⟨a, ha, e⟩ := all_mem sec zs hg
      have := hrs a ha
      omega⟩
    refine Ev.step (f := fun k => (impl_tableOrLimit.f k secrets sizes (allP sec zs rs us)).bind fun b => some (b.1, b.2.1, b.2.2.1, b.2.2.2)) (fun k => ?_) (Ev.bind (limit_is secrets sizes _ hsl hfew) (Ev.now _))
    simp only [impl_combine.l1]
    exact if_neg (by omega)
  | succ d ih =>
    intro i hi hd hlen0
    have hlen := Aside0.mk hlen0
    clear hlen0
    have hlt : i < rs.length := by omega
    have hgi : rs.getD i zW = rs[i] := by simp [List.getD, hlt]
    have hal : rs[i].f1.length = L := hrs _ (List.getElem_mem hlt)
    have hwi := Aside0.mk (show wrap64 ((i : Int) + 1) = ((i + 1 : Nat) : Int) by rw [wrap_id (by omega) (by omega)]; omega)
    have hin : ∀ (e j : Nat), j ≤ us.length → us.length - j = e → (pre sec zs rs us i j).length ≤ 700 →
        Ev (fun k => impl_combine.l2 k secrets arg sizes (pre sec zs rs us i j) rs (rs.length : Int) (i : Int) us (us.length : Int) (j : Int) m zs us rs[i].f0 rs[i].f1) (outV secrets sizes (allP sec zs rs us)) := by
      intro e
      induction e with
      | zero =>
        intro j hj he hlen20
        have hlen2 := Aside0.mk hlen20
        clear hlen20
        obtain rfl : j = us.length := by omega
        rw [pre_all sec zs hlt] at hlen2 ⊢
        refine Ev.step (fun k => ?_) (ih (i + 1) (by omega) (by omega) hlen2.out)
        simp only [impl_combine.l2]
        rw [hwi.out]
        exact if_neg (by omega)
      | succ e ih2 =>
        intro j hj he hlen20
        have hlen2 := Aside0.mk hlen20
        clear hlen20
        have hjt : j < us.length := by omega
        have hbl : us[j].f1.length = L := hus _ (List.getElem_mem hjt)
        have hwj := Aside0.mk (show wrap64 ((j : Int) + 1) = ((j + 1 : Nat) : Int) by rw [wrap_id (by omega) (by omega)]; omega)
        by_cases heq : rs[i].f0 = us[j].f0
        case neg =>
          have hsk := pre_skip sec zs (rs := rs) (us := us) (i := i) hjt (by rw [hgi]; exact decide_eq_false heq)
          have h2 := ih2 (j + 1) (by omega) (by omega) (by rw [hsk]; exact hlen2.out)
          rw [hsk] at h2
          refine Ev.step (fun k => ?_) h2
          simp only [impl_combine.l2]
          refine (if_pos (Int.ofNat_lt.2 hjt)).trans ((if_pos (Int.natCast_nonneg j)).trans ((if_pos (Int.ofNat_lt.2 hjt)).trans ?_))
          rw [rdW us hjt, hsec, Option.bind_some, hwj.out]
          exact if_neg (by simpa using heq)
        have hsn := pre_snoc sec zs (rs := rs) (us := us) (i := i) hjt (by rw [hgi]; exact decide_eq_true heq)
        rw [hgi] at hsn
        have hsh : ∀ (c h : Nat), h ≤ L → L - h = c → Ev (fun k => impl_combine.l3 k secrets arg sizes (pre sec zs rs us i j) (sec rs[i].f0 us[j].f0) ((List.range h).map (mixA zs rs[i].f1 us[j].f1)) rs (rs.length : Int) (i : Int) us (us.length : Int) (j : Int) rs[i].f1 (rs[i].f1.length : Int) (h : Int) m zs us rs[i].f0 rs[i].f1 us[j].f0 us[j].f1) (outV secrets sizes (allP sec zs rs us)) := by
          intro c
          induction c with
          | zero =>
            intro h hh hc
            obtain rfl : h = rs[i].f1.length := by omega
            have hy : pre sec zs rs us i j ++ [(⟨sec rs[i].f0 us[j].f0, (List.range rs[i].f1.length).map (mixA zs rs[i].f1 us[j].f1)⟩ : Row)] = pre sec zs rs us i (j + 1) := by rw [hsn]; rfl
            by_cases hbig : (pre sec zs rs us i (j + 1)).length ≤ 700
            · have HBIG := Aside0.mk hbig
              clear hbig
              refine Ev.step (fun k => ?_) (ih2 (j + 1) (by omega) (by omega) HBIG.out)
              simp only [impl_combine.l3]
              refine (if_neg (by omega)).trans ((if_pos (Nat.lt_of_le_of_lt hlen2.out (by decide))).trans ?_)
              rw [hy, Option.bind_some, hwj.out]
              exact if_neg (fun h_ => Nat.not_lt.2 HBIG.out (Int.ofNat_lt.1 h_))
            · obtain ⟨rest, hrest⟩ := pre_split sec zs (us := us) (j := j + 1) hlt
              have HBIG := Aside0.mk (Nat.not_le.1 hbig)
              clear hbig
              rw [out_long (rs := allP sec zs rs us) (by rw [hrest, List.length_append]; exact Nat.lt_of_lt_of_le HBIG.out (Nat.le_add_right _ _))]
              refine Ev.step (f := fun _ => some (0, [], [], 3)) (fun k => ?_) (Ev.now _)
              simp only [impl_combine.l3]
              refine (if_neg (by omega)).trans ((if_pos (Nat.lt_of_le_of_lt hlen2.out (by decide))).trans ?_)
              rw [hy, Option.bind_some]
              exact if_pos (Int.ofNat_lt.2 HBIG.out)
          | succ c ih3 =>
            intro h hh hc
            have h3 := ih3 (h + 1) (by omega) (by omega)
            rw [range_snoc] at h3
            have hwh := Aside0.mk (show wrap64 ((h : Int) + 1) = ((h + 1 : Nat) : Int) by rw [wrap_id (by omega) (by omega)]; omega)
            refine Ev.step (fun k => ?_) h3
            simp only [impl_combine.l3]
            refine (if_pos (by omega)).trans ((if_pos (by omega)).trans ((if_pos (by omega)).trans ((if_pos (by omega)).trans ((if_pos (by omega)).trans ((if_pos (by rw [List.length_map, List.length_range]; omega)).trans ?_)))))
            rw [hwh.out, rdn, rdn, rdn]
            rfl
        have h0 := hsh L 0 (Nat.zero_le _) rfl
        refine Ev.step (fun k => ?_) h0
        simp only [impl_combine.l2]
        refine (if_pos (Int.ofNat_lt.2 hjt)).trans ((if_pos (Int.natCast_nonneg j)).trans ((if_pos (Int.ofNat_lt.2 hjt)).trans ?_))
        rw [rdW us hjt, hsec, Option.bind_some]
        exact if_pos (decide_eq_true heq)
    have h0 := hin us.length 0 (Nat.zero_le _) rfl hlen.out
    refine Ev.step (fun k => ?_) h0
    simp only [impl_combine.l1]
    refine (if_pos (Int.ofNat_lt.2 hlt)).trans ((if_pos (Int.natCast_nonneg i)).trans ((if_pos (Int.ofNat_lt.2 hlt)).trans ?_))
    rw [rdW rs hlt]
    rfl
/-- What the program's combine makes. -/
theorem combine_is (n : Int) (sz : List Int) (hsz : sz.length = L) (hsm : sizes = mulL sz zs) : Ev (fun k => impl_combine.f k n sz rs m zs us secrets arg) (outV secrets sizes (allP sec zs rs us)) := by
  have h1 := combine_rows hsec secrets m sizes zs rs us L hL hzs hrs hus hrl hul hsl rs.length 0 (Nat.zero_le _) rfl (by rw [pre_zero]; simp [allP])
  rw [pre_zero, List.take_zero, show allP sec zs [] us = [] from rfl] at h1
  have hloop : ∀ (d h : Nat), h ≤ L → L - h = d → Ev (fun k => impl_combine.l0 k secrets arg ((List.range h).map (mulA sz zs)) sz (sz.length : Int) (h : Int) n sz rs m zs us) (outV secrets sizes (allP sec zs rs us)) := by
    intro d
    induction d with
    | zero =>
      intro h hh hd
      obtain rfl : h = sz.length := by omega
      refine Ev.step (fun k => ?_) h1
      simp only [impl_combine.l0]
      refine (if_neg (by omega)).trans ?_
      rw [hsm]
      rfl
    | succ d ih =>
      intro h hh hd
      have h2 := ih (h + 1) (by omega) (by omega)
      rw [range_snoc] at h2
      have hw := Aside0.mk (show wrap64 ((h : Int) + 1) = ((h + 1 : Nat) : Int) by rw [wrap_id (by omega) (by omega)]; omega)
      refine Ev.step (fun k => ?_) h2
      simp only [impl_combine.l0]
      refine (if_pos (by omega)).trans ((if_pos (by omega)).trans ((if_pos (by omega)).trans ((if_pos (by omega)).trans ((if_pos (by rw [List.length_map, List.length_range]; omega)).trans ?_))))
      rw [hw.out, rdn, rdn]
      rfl
  exact hloop L 0 (Nat.zero_le _) rfl
end

/-! ### the reference's, the secret of both -/
/-- The secret of both. -/
def sel (a _b : Int) : Int := a
section
variable (n m : Int) (sizes sz zs : List Int) (rs us : List Row) (L : Nat) (hL : L ≤ 7) (hsl : sizes.length = L) (hzs : zs.length = L) (hrs : ∀ r ∈ rs, r.f1.length = L) (hus : ∀ r ∈ us, r.f1.length = L) (hrl : rs.length ≤ 700) (hul : us.length ≤ 700)
include hL hsl hzs hrs hus hrl hul
theorem cross_rows : ∀ (d i : Nat), i ≤ rs.length → rs.length - i = d →
    Ev (fun k => spec_l06Cross.l1 k sizes ((pre sel zs rs us i 0).take 701) (i : Int) n sz rs m zs us) ((allP sel zs rs us).take 701, sizes) := by
  intro d
  induction d with
  | zero =>
    intro i hi hd
    obtain rfl : i = rs.length := by omega
    rw [pre_end]
    refine Ev.step (f := fun k => some ((allP sel zs rs us).take 701, sizes)) (fun k => ?_) (Ev.now _)
    simp only [spec_l06Cross.l1]
    exact if_neg (by omega)
  | succ d ih =>
    intro i hi hd
    have hlt : i < rs.length := by omega
    have hgi : rs.getD i zW = rs[i] := by simp [List.getD, hlt]
    have hal : rs[i].f1.length = L := hrs _ (List.getElem_mem hlt)
    have hwi := Aside0.mk (show wrap64 ((i : Int) + 1) = ((i + 1 : Nat) : Int) by rw [wrap_id (by omega) (by omega)]; omega)
    have hnext := ih (i + 1) (by omega) (by omega)
    have hin : ∀ (e j : Nat), j ≤ us.length → us.length - j = e →
        Ev (fun k => spec_l06Cross.l2 k sizes ((pre sel zs rs us i j).take 701) (i : Int) (j : Int) n sz rs m zs us) ((allP sel zs rs us).take 701, sizes) := by
      intro e
      induction e with
      | zero =>
        intro j hj he
        obtain rfl : j = us.length := by omega
        rw [pre_all sel zs hlt]
        refine Ev.step (f := fun k => spec_l06Cross.j3 k sizes ((pre sel zs rs us (i + 1) 0).take 701) (i : Int) (us.length : Int) false n sz rs m zs us) (fun k => ?_) (Ev.step (fun k => ?_) hnext)
        · simp only [spec_l06Cross.l2]
          exact if_neg (by omega)
        · simp only [spec_l06Cross.j3]
          rw [hwi.out]
          exact if_neg Bool.false_ne_true
      | succ e ih2 =>
        intro j hj he
        have hjt : j < us.length := by omega
        have hbl : us[j].f1.length = L := hus _ (List.getElem_mem hjt)
        have hwj := Aside0.mk (show wrap64 ((j : Int) + 1) = ((j + 1 : Nat) : Int) by rw [wrap_id (by omega) (by omega)]; omega)
        have hsn := fun he => pre_snoc sel zs (rs := rs) (us := us) (i := i) hjt he
        rw [hgi] at hsn
        have hstep := ih2 (j + 1) (by omega) (by omega)
        by_cases hbig : (pre sel zs rs us i j).length ≤ 700
        · have HBIG := Aside0.mk hbig
          have htk := List.take_of_length_le (Nat.le_trans hbig (by decide : 700 ≤ 701))
          by_cases heq : rs[i].f0 = us[j].f0
          case neg =>
            have hsk := pre_skip sel zs (rs := rs) (us := us) (i := i) hjt (by rw [hgi]; exact decide_eq_false heq)
            clear hbig
            rw [hsk] at hstep
            rw [htk] at hstep ⊢
            refine Ev.step (f := fun k => spec_l06Cross.j3 k sizes (pre sel zs rs us i j) (i : Int) (j : Int) true n sz rs m zs us) (fun k => ?_) (Ev.step (fun k => ?_) hstep)
            · simp only [spec_l06Cross.l2]
              refine (if_pos (Int.ofNat_lt.2 hjt)).trans ?_
              rw [decide_eq_true (show ((pre sel zs rs us i j).length : Int) ≤ 700 from by have h_ := HBIG.out; omega)]
            · simp only [spec_l06Cross.j3, if_true]
              rw [if_pos (Int.natCast_nonneg i), if_pos (Int.ofNat_lt.2 hlt), if_pos (Int.natCast_nonneg j), if_pos (Int.ofNat_lt.2 hjt), rdW rs hlt, rdW us hjt, if_neg heq, hwj.out]
          have hsn := hsn (decide_eq_true heq)
          have htk2 : (pre sel zs rs us i (j + 1)).take 701 = pre sel zs rs us i (j + 1) := List.take_of_length_le (by rw [hsn, List.length_append]; exact Nat.succ_le_succ hbig)
          clear hbig
          rw [htk2] at hstep
          rw [htk]
          have hsh : ∀ (c h : Nat), h ≤ L → L - h = c → Ev (fun k => spec_l06Cross.l3 k sizes (pre sel zs rs us i j) (i : Int) (j : Int) rs us (h : Int) n sz rs m zs us (sel rs[i].f0 us[j].f0) ((List.range h).map (mixA zs rs[i].f1 us[j].f1))) ((allP sel zs rs us).take 701, sizes) := by
            intro c
            induction c with
            | zero =>
              intro h hh hc
              obtain rfl : h = rs[i].f1.length := by omega
              have hy : pre sel zs rs us i j ++ [(⟨sel rs[i].f0 us[j].f0, (List.range rs[i].f1.length).map (mixA zs rs[i].f1 us[j].f1)⟩ : Row)] = pre sel zs rs us i (j + 1) := by rw [hsn]; rfl
              refine Ev.step (fun k => ?_) hstep
              simp only [spec_l06Cross.l3]
              refine (if_neg (by omega)).trans ((if_pos (Nat.lt_of_le_of_lt HBIG.out (by decide))).trans ?_)
              rw [hy, hwj.out]
            | succ c ih3 =>
              intro h hh hc
              have h3 := ih3 (h + 1) (by omega) (by omega)
              rw [range_snoc] at h3
              have hwh := Aside0.mk (show wrap64 ((h : Int) + 1) = ((h + 1 : Nat) : Int) by rw [wrap_id (by omega) (by omega)]; omega)
              refine Ev.step (fun k => ?_) h3
              simp only [spec_l06Cross.l3]
              refine (if_pos (by omega)).trans ((if_pos (by omega)).trans ((if_pos (Int.ofNat_lt.2 hlt)).trans ((if_pos (by omega)).trans ?_)))
              rw [rdW rs hlt, rdW us hjt]
              refine (if_pos (by omega)).trans ((if_pos (by omega)).trans ((if_pos (by omega)).trans ((if_pos (Int.ofNat_lt.2 hjt)).trans ((if_pos (by omega)).trans ((if_pos (by rw [List.length_map, List.length_range]; omega)).trans ?_)))))
              rw [hwh.out, rdn, rdn, rdn]
              rfl
          have h0 := hsh L 0 (Nat.zero_le _) rfl
          refine Ev.step (f := fun k => spec_l06Cross.j3 k sizes (pre sel zs rs us i j) (i : Int) (j : Int) true n sz rs m zs us) (fun k => ?_) (Ev.step (fun k => ?_) h0)
          · simp only [spec_l06Cross.l2]
            refine (if_pos (Int.ofNat_lt.2 hjt)).trans ?_
            rw [decide_eq_true (show ((pre sel zs rs us i j).length : Int) ≤ 700 from by have h_ := HBIG.out; omega)]
          · simp only [spec_l06Cross.j3, if_true]
            rw [if_pos (Int.natCast_nonneg i), if_pos (Int.ofNat_lt.2 hlt), if_pos (Int.natCast_nonneg j), if_pos (Int.ofNat_lt.2 hjt), rdW rs hlt, rdW us hjt, if_pos heq]
            rfl
        · have HBIG := Aside0.mk (Nat.not_le.1 hbig)
          obtain ⟨rest, hrest⟩ := pre_grow sel zs (us := us) (j := j) hlt
          have heq : (pre sel zs rs us i j).take 701 = (pre sel zs rs us (i + 1) 0).take 701 := by rw [hrest, List.take_append_of_le_length HBIG.out]
          have hlen : ¬ ((((pre sel zs rs us (i + 1) 0).take 701).length : Nat) : Int) ≤ 700 := by
            rw [← heq, List.length_take]
            have := HBIG.out
            omega
          have HLEN := Aside0.mk hlen
          clear hbig hlen
          rw [heq]
          refine Ev.step (f := fun k => spec_l06Cross.j3 k sizes ((pre sel zs rs us (i + 1) 0).take 701) (i : Int) (j : Int) false n sz rs m zs us) (fun k => ?_) (Ev.step (fun k => ?_) hnext)
          · simp only [spec_l06Cross.l2]
            refine (if_pos (Int.ofNat_lt.2 hjt)).trans ?_
            rw [decide_eq_false HLEN.out]
          · simp only [spec_l06Cross.j3]
            rw [hwi.out]
            exact if_neg Bool.false_ne_true
    have h0 := hin us.length 0 (Nat.zero_le _) rfl
    refine Ev.step (fun k => ?_) h0
    simp only [spec_l06Cross.l1]
    exact if_pos (Int.ofNat_lt.2 hlt)
theorem cross_is (k0 : Int) (hsz : sz.length = L) (hsm : sizes = mulL sz zs) : Ev (fun k => spec_l06Cross.f k n sz rs m zs us k0) ((allP sel zs rs us).take 701, sizes) := by
  have h1 := cross_rows n m sizes sz zs rs us L hL hsl hzs hrs hus hrl hul rs.length 0 (Nat.zero_le _) rfl
  rw [pre_zero, List.take_zero, show allP sel zs [] us = [] from rfl, List.take_nil] at h1
  have hloop : ∀ (d h : Nat), h ≤ L → L - h = d → Ev (fun k => spec_l06Cross.l0 k ((List.range h).map (mulA sz zs)) (h : Int) n sz rs m zs us) ((allP sel zs rs us).take 701, sizes) := by
    intro d
    induction d with
    | zero =>
      intro h hh hd
      obtain rfl : h = sz.length := by omega
      refine Ev.step (fun k => ?_) h1
      simp only [spec_l06Cross.l0]
      refine (if_neg (by omega)).trans ?_
      rw [hsm]
      rfl
    | succ d ih =>
      intro h hh hd
      have h2 := ih (h + 1) (by omega) (by omega)
      rw [range_snoc] at h2
      have hw := Aside0.mk (show wrap64 ((h : Int) + 1) = ((h + 1 : Nat) : Int) by rw [wrap_id (by omega) (by omega)]; omega)
      refine Ev.step (fun k => ?_) h2
      simp only [spec_l06Cross.l0]
      refine (if_pos (by omega)).trans ((if_pos (by omega)).trans ((if_pos (by omega)).trans ((if_pos (by rw [List.length_map, List.length_range]; omega)).trans ?_)))
      rw [hw.out, rdn, rdn]
      rfl
  exact hloop L 0 (Nat.zero_le _) rfl
end
end Go.Proofs.Ytdahdeohmbadhaa.TJoin
