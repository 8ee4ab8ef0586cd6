/- What FixColumn tells, the program's and the reference's, and their contracts. -/
import Derived.Test.YtdahdeohmbadhaaTDrop
import Derived.Test.YtdahdeohmbadhaaGx10
namespace Go.Proofs.Ytdahdeohmbadhaa.TFixC
open Go.RowKit Go.Lib Go.Proofs Go.Proofs.YtdahdeohmbadhaaW.PrintWords Go.Proofs.YtdahdeohmbadhaaW.PrintWords.Kd Go.Proofs.YtdahdeohmbadhaaW.PrintLast Go.Proofs.YtdahdeohmbadhaaW.PrintMore Go.Proofs.Ytdahdeohmbadhaa.G Go.Proofs.Ytdahdeohmbadhaa.Fam Go.Proofs.Ytdahdeohmbadhaa.Loops Go.Proofs.Ytdahdeohmbadhaa.MarkT Go.Proofs.Ytdahdeohmbadhaa.TSort Go.Proofs.Ytdahdeohmbadhaa.TCmp Go.Proofs.Ytdahdeohmbadhaa.TLess Go.Proofs.Ytdahdeohmbadhaa.TShape Go.Proofs.Ytdahdeohmbadhaa.TOk Go.Proofs.Ytdahdeohmbadhaa.TValid Go.Proofs.Ytdahdeohmbadhaa.TMerge Go.Proofs.Ytdahdeohmbadhaa.ExTC Go.Proofs.Ytdahdeohmbadhaa.TMade Go.Proofs.Ytdahdeohmbadhaa.TGather Go.Proofs.Ytdahdeohmbadhaa.TCol Go.Proofs.Ytdahdeohmbadhaa.TDrop
set_option linter.unusedVariables false
set_option linter.unusedSimpArgs false

/-- Whether a holder has a share. -/
def hasV (h : Nat) (v : Int) (r : Row) : Bool := decide (rd r.f1 (h : Int) = v)
/-- What is told. -/
def fixV (n : Int) (sz : List Int) (rs : List Row) (h v : Int) : Int × List Int × List Row × Int :=
  if colCode n sz rs h = 0 then (if (rs.filter (hasV h.toNat v)).map (wo h.toNat) = [] then (0, [], [], 2) else outV n (cutL sz h.toNat) ((rs.filter (hasV h.toNat v)).map (wo h.toNat))) else (0, [], [], colCode n sz rs h)
theorem spec_is (n : Int) (sz : List Int) (rs : List Row) (h v : Int) : Ev (fun k => spec_FixColumn.f k n sz rs h v) (fixV n sz rs h v) := by
  unfold spec_FixColumn.f fixV
  refine Ev.bind (a := colCode n sz rs h) (Ev.now _) ?_
  by_cases hc : colCode n sz rs h = 0
  · simp only [if_pos hc]
    obtain ⟨hT, hh, _⟩ := code_zero.1 hc
    obtain ⟨m, rfl⟩ : ∃ m : Nat, h = (m : Int) := ⟨h.toNat, by omega⟩
    rw [Int.toNat_natCast]
    have hm : m < sz.length := by omega
    have h1 := hT.1.2.1
    have h2 := hT.1.2.2.1
    have hloop : ∀ (d i : Nat), i ≤ rs.length → rs.length - i = d → Ev (fun k => spec_FixColumn.l0 k (m : Int) v (((rs.take i).filter (hasV m v)).map (wo m)) (i : Int) n sz rs) (if (rs.filter (hasV m v)).map (wo m) = [] then (0, [], [], 2) else outV n (cutL sz m) ((rs.filter (hasV m v)).map (wo m))) := by
      intro d
      induction d with
      | zero =>
        intro i hi hd
        obtain rfl : i = rs.length := by omega
        rw [List.take_length]
        have hll : ((rs.filter (hasV m v)).map (wo m)).length ≤ rs.length := by
          rw [List.length_map]
          exact List.length_filter_le _ _
        generalize (rs.filter (hasV m v)).map (wo m) = ms at *
        by_cases he : ms = []
        · subst he
          rw [if_pos rfl]
          exact Ev.step (f := fun _ => some (0, [], [], 2)) (fun k => by simp only [spec_FixColumn.l0]; exact (if_neg (by omega)).trans (if_pos rfl)) (Ev.now _)
        · rw [if_neg he]
          have hpos : ¬ (ms.length : Int) = 0 := fun e => he (List.length_eq_zero_iff.1 (by omega))
          refine Ev.step (f := fun _ => some (outV n (cutL sz m) ms)) (fun k => ?_) (Ev.now _)
          simp only [spec_FixColumn.l0]
          exact (if_neg (by omega)).trans ((if_neg hpos).trans (tail_is n sz m _ hm (by omega) (by omega)))
      | succ d ih =>
        intro i hi hd
        have hlt : i < rs.length := by omega
        have h3 := ih (i + 1) (by omega) (by omega)
        have hlen := len_of hT (List.getElem_mem hlt)
        have hw : wrap64 ((i : Int) + 1) = ((i + 1 : Nat) : Int) := by rw [wrap_id (by omega) (by omega)]; omega
        have hll : (((rs.take i).filter (hasV m v)).map (wo m)).length ≤ i := by
          rw [List.length_map]
          have := List.length_filter_le (hasV m v) (rs.take i)
          rw [List.length_take] at this
          omega
        rw [List.take_succ_eq_append_getElem hlt, List.filter_append, List.map_append] at h3
        refine Ev.step (fun k => ?_) h3
        simp only [spec_FixColumn.l0]
        refine (if_pos (Int.ofNat_lt.2 hlt)).trans ((if_pos (Int.natCast_nonneg i)).trans ((if_pos (Int.natCast_nonneg m)).trans ?_))
        rw [rdW rs hlt]
        refine (if_pos (Int.ofNat_lt.2 (by omega))).trans ?_
        by_cases hp : rd rs[i].f1 (m : Int) = v
        · have hp2 : hasV m v rs[i] = true := decide_eq_true hp
          refine (if_pos hp).trans ?_
          rw [lwithout_is rs[i].f1 m (by omega) (by omega), Option.bind_some]
          refine (if_pos (by omega)).trans ?_
          rw [hw]
          simp only [List.filter_cons, hp2, if_true, List.filter_nil, List.map_cons, List.map_nil]
          rfl
        · have hp2 : hasV m v rs[i] = false := decide_eq_false hp
          refine (if_neg hp).trans ?_
          rw [hw]
          simp only [List.filter_cons, hp2, Bool.false_eq_true, if_false, List.filter_nil, List.map_nil, List.append_nil]
    have := hloop rs.length 0 (Nat.zero_le _) rfl
    rw [List.take_zero, List.filter_nil, List.map_nil] at this
    exact this
  · simp only [if_neg hc]
    exact Ev.now _
theorem dropped_fix (n : Int) (sz : List Int) (rs : List Row) (h v : Int) (hc : colCode n sz rs h = 0) : Ev (fun k => impl_Table_dropped.f k n sz rs h v) (fixV n sz rs h v) := by
  unfold fixV
  rw [if_pos hc]
  obtain ⟨hT, hh, _⟩ := code_zero.1 hc
  obtain ⟨m, rfl⟩ : ∃ m : Nat, h = (m : Int) := ⟨h.toNat, by omega⟩
  rw [Int.toNat_natCast]
  exact dropped_is n sz rs m v (hasV m v) hT (by omega) (fun r hr => by
    have := len_of hT hr
    exact (if_pos (Int.natCast_nonneg m)).trans (if_pos (Int.ofNat_lt.2 (by omega))))

/-! ### contracts -/
def FixRes (W : World) (n : Int) (sz : List Int) (rs : List Row) (h v : Int) : Ending → World → Prop := TabRes W (fixV n sz rs h v).1 (fixV n sz rs h v).2.1 (fixV n sz rs h v).2.2.1 (fixV n sz rs h v).2.2.2
theorem specFix_calls (n : Int) (B : Option Addr) (d : Nat) (sz : List Int) (A : Option Addr) (c : Nat) (rs : List Row) (h v : Int) (w : World) (hB : Kd.C (Kd.int .i64) w B sz.length sz) (hd : sz.length ≤ d) (hC : Kd.C dW w A rs.length rs) (hc : rs.length ≤ c) :
    Calls Try.prog 31 #[.agg #[.int .i64 n, .slice B sz.length d, .slice A rs.length c], .int .i64 h, .int .i64 v] w (FixRes w n sz rs h v) := by
  obtain ⟨k, hk⟩ := (spec_is n sz rs h v).rounds
  exact spec_FixColumn.calls k n B d sz A c rs h v _ _ _ _ w hB hd hC hc hk
set_option maxHeartbeats 4000000 in
set_option maxRecDepth 100000 in
theorem keep_calls (W : World) (s : Int) (A : Option Addr) (c : Nat) (l : List Int) (g4 g5 m : Nat) (v : Int) (b : Bool) (h4 : W.cell? ⟨g4, 0, none⟩ = some (.int .i64 (m : Int))) (h5 : W.cell? ⟨g5, 0, none⟩ = some (.int .i64 v)) (hC : Kd.C (Kd.int .i64) W A l.length l) (hc : l.length ≤ c) (hm : m < l.length) (hb : decide (rd l (m : Int) = v) = b) :
    Calls Try.prog 78 (#[] ++ #[.agg #[.int .i64 s, .slice A l.length c]] ++ #[.pointer (some ⟨g4, 0, none⟩), .pointer (some ⟨g5, 0, none⟩)]) W fun e w' => e = .returned (.bool b) ∧ Below W.heap.size W w' := by
  show Calls Try.prog 78 #[.agg #[.int .i64 s, .slice A l.length c], .pointer (some ⟨g4, 0, none⟩), .pointer (some ⟨g5, 0, none⟩)] W _
  have hu := Try.underlying87
  obtain ⟨ad, rfl, hx⟩ := int_cell hC hm
  rw [rd_nat] at hb
  have hbig : l.length ≤ 9223372036854775807 := hC.2.1
  have hlt : (m : Int) < (l.length : Int) := by omega
  generalize l.getD m 0 = x at *
  have hB := below_alloc (Below.refl W.heap.size W) (.cells #[.int .i64 s, .slice (some ad) l.length c] 87)
  have y4 := pw_cell_below hB h4
  have y5 := pw_cell_below hB h5
  have yx := pw_cell_below hB hx
  have bk := blk_new W (.cells #[.int .i64 s, .slice (some ad) l.length c] 87)
  have z1 := (blk_cell bk 1).trans (show _ = some (Value.slice (some ad) l.length c) from rfl)
  have HB := Aside0.mk hB
  clear h4 h5 hx hC hB bk
  have hbe : (x == v) = b := by rw [← hb]; by_cases e : x = v <;> simp [e]
  clear hb
  go_enter Try.func78, Try.ntmps78
  go_wp2_with (fail)
  go_quiet (fail)
  go_wp2_with (fail)
  go_ret
  exact ⟨by first | rfl | (rw [hbe]; done) | (simp [hbe]; done), pw_below_drewN HB.out _⟩
set_option maxHeartbeats 8000000 in
set_option maxRecDepth 100000 in
theorem implFix_calls (n : Int) (B : Option Addr) (d : Nat) (sz : List Int) (A : Option Addr) (c : Nat) (rs : List Row) (h v : Int) (w : World) (hB : Kd.C (Kd.int .i64) w B sz.length sz) (hd : sz.length ≤ d) (hC : Kd.C dW w A rs.length rs) (hc : rs.length ≤ c) :
    Calls Try.prog 32 #[.agg #[.int .i64 n, .slice B sz.length d, .slice A rs.length c], .int .i64 h, .int .i64 v] w (FixRes w n sz rs h v) := by
  have hu := Try.underlying27
  obtain ⟨k1, hk1⟩ := (col_is n sz rs h (lens_R hC).2).rounds
  have HCB := Aside0.mk (fun W (hb : Below w.heap.size w W) => Kd.C_below hB hb)
  have HCC := Aside0.mk (fun W (hb : Below w.heap.size w W) => Kd.C_below hC hb)
  have HD := Aside0.mk hd
  have HC := Aside0.mk hc
  have HCOL := fun W hb => impl_columnCode.calls k1 n B d sz A c rs h _ W (HCB.out W hb) hd (HCC.out W hb) hc hk1
  obtain ⟨W2, hW2⟩ : ∃ W2, W2 = (((w.alloc (.cells #[.int .i64 n, .slice B sz.length d, .slice A rs.length c] tabT)).alloc (.cells #[.int .i64 h] 2)).alloc (.cells #[.int .i64 v] 2)).alloc (.cells #[.int .i64 0, .slice none 0 0, .slice none 0 0] tabT) := ⟨_, rfl⟩
  have hB2 : Below w.heap.size w W2 := by rw [hW2]; exact below_alloc (below_alloc (below_alloc (below_alloc (Below.refl _ _) _) _) _) _
  have b2 : W2.heap[w.heap.size]? = some (.cells #[.int .i64 n, .slice B sz.length d, .slice A rs.length c] tabT (0, 0)) := by rw [hW2]; exact blk_alloc (blk_alloc (blk_alloc (blk_new w _) _) _) _
  have bh : W2.heap[w.heap.size + 1]? = some (.cells #[.int .i64 h] 2 (0, 0)) := by
    rw [hW2]
    refine blk_alloc (blk_alloc ?_ _) _
    simpa using blk_new (w.alloc (.cells #[.int .i64 n, .slice B sz.length d, .slice A rs.length c] tabT)) (.cells #[.int .i64 h] 2)
  have bv : W2.heap[w.heap.size + 1 + 1]? = some (.cells #[.int .i64 v] 2 (0, 0)) := by
    rw [hW2]
    refine blk_alloc ?_ _
    simpa using blk_new ((w.alloc (.cells #[.int .i64 n, .slice B sz.length d, .slice A rs.length c] tabT)).alloc (.cells #[.int .i64 h] 2)) (.cells #[.int .i64 v] 2)
  have b4 : W2.heap[w.heap.size + 1 + 1 + 1]? = some (.cells #[.int .i64 0, .slice none 0 0, .slice none 0 0] tabT (0, 0)) := by
    rw [hW2]
    simpa using blk_new (((w.alloc (.cells #[.int .i64 n, .slice B sz.length d, .slice A rs.length c] tabT)).alloc (.cells #[.int .i64 h] 2)).alloc (.cells #[.int .i64 v] 2)) (.cells #[.int .i64 0, .slice none 0 0, .slice none 0 0] tabT)
  have BH := Aside0.mk bh
  have BV := Aside0.mk bv
  have HCOL2 := HCOL W2 hB2
  have HW := Aside0.mk hW2
  have HB2 := Aside0.mk hB2
  have B2 := Aside0.mk b2
  have B4 := Aside0.mk b4
  rw [hW2] at HCOL2
  unfold FixRes
  by_cases hz : colCode n sz rs h = 0
  · obtain ⟨k2, hk2⟩ := (dropped_fix n sz rs h v hz).rounds
    rw [hz] at HCOL2
    obtain ⟨r1, rz, r2, r3, hV⟩ : ∃ a b c d, fixV n sz rs h v = (a, b, c, d) := ⟨_, _, _, _, rfl⟩
    rw [hV] at hk2
    rw [hV]
    have eK : ∀ args w, (callFunc 78 args).run Try.prog w = .ok (.enter 78 args) w := enters_of Try.func78 (by kernel_rfl) rfl
    have hCC := HCC.out
    have HDR := fun W (hb : Below w.heap.size w W) (hh : W.cell? ⟨w.heap.size + 1, 0, none⟩ = some (.int .i64 h)) (hv : W.cell? ⟨w.heap.size + 1 + 1, 0, none⟩ = some (.int .i64 v)) => impl_Table_dropped.calls k2 n B d sz A c rs h v r1 rz r2 r3 W (HCB.out W hb) hd (HCC.out W hb) hc 78 #[] #[.pointer (some ⟨w.heap.size + 1, 0, none⟩), .pointer (some ⟨w.heap.size + 1 + 1, 0, none⟩)] eK (fun W' s A' c' l b hb' hC' hc' hk' => by
      obtain ⟨m, rfl⟩ : ∃ m : Nat, h = (m : Int) := ⟨h.toNat, by have := (code_zero.1 hz).2.1.1; omega⟩
      have hk2 : (if (0 : Int) ≤ (m : Int) then (if (m : Int) < (l.length : Int) then some (decide (rd l (m : Int) = v)) else none) else none) = some b := hk'
      rw [if_pos (Int.natCast_nonneg m)] at hk2
      by_cases hl : (m : Int) < (l.length : Int)
      · rw [if_pos hl] at hk2
        exact keep_calls W' s A' c' l _ _ m v b (pw_cell_below hb' hh) (pw_cell_below hb' hv) hC' hc' (by omega) (Option.some.inj hk2)
      · rw [if_neg hl] at hk2
        cases hk2) hk2
    clear hCC
    clear hV hz hk1 hk2 HCOL hB hC hd hc hB2 b2 b4 bh bv hW2 eK
    go_enter Try.func32, Try.ntmps32
    have x0 := (blk_cell B2.out 0).trans (show _ = some (Value.int .i64 n) from rfl)
    have x1 := (blk_cell B2.out 1).trans (show _ = some (Value.slice B sz.length d) from rfl)
    have x2 := (blk_cell B2.out 2).trans (show _ = some (Value.slice A rs.length c) from rfl)
    have xh := (blk_cell BH.out 0).trans (show _ = some (Value.int .i64 h) from rfl)
    rw [HW.out] at x0 x1 x2 xh
    go_wp2_with (fail)
    (refine HCOL2.mono ?_; clear HCOL2 x0 x1 x2 xh; rintro e w3 ⟨rfl, hb3⟩; rw [← HW.out] at hb3)
    have HB3 := Aside0.mk (below_then HB2.out HB2.out.size hb3)
    have C2 := Aside0.mk (blk_below B2.out hb3)
    have C4 := Aside0.mk (blk_below B4.out hb3)
    have CH := Aside0.mk (blk_below BH.out hb3)
    have CV := Aside0.mk (blk_below BV.out hb3)
    clear hb3
    have yh := (blk_cell CH.out 0).trans (show _ = some (Value.int .i64 h) from rfl)
    have yv := (blk_cell CV.out 0).trans (show _ = some (Value.int .i64 v) from rfl)
    have HDR3 := HDR w3 HB3.out yh yv
    clear HDR
    have y0 := (blk_cell C2.out 0).trans (show _ = some (Value.int .i64 n) from rfl)
    have y1 := (blk_cell C2.out 1).trans (show _ = some (Value.slice B sz.length d) from rfl)
    have y2 := (blk_cell C2.out 2).trans (show _ = some (Value.slice A rs.length c) from rfl)
    go_wp2_with (fail)
    (refine HDR3.mono ?_; clear HDR3 y0 y1 y2 yh yv; rintro e w4 ⟨v1, v2, rfl, hr4, hs4, hb4⟩)
    obtain ⟨A4, c4, rfl⟩ := R_slice hr4
    obtain ⟨A5, c5, rfl⟩ := S_slice hs4
    have HR4 := Aside0.mk (R_lower hr4 HB3.out.size)
    have HS4 := Aside0.mk (S_lower hs4 HB3.out.size)
    have D4 := Aside0.mk (blk_below C4.out hb4)
    have HB4 := Aside0.mk (below_then HB3.out HB3.out.size hb4)
    clear hr4 hs4 hb4
    have z0 : w4.cell? ⟨w.heap.size + 1 + 1 + 1, 0, none⟩ = some (.int .i64 0) := (blk_cell D4.out 0).trans rfl
    have z1 : w4.cell? ⟨w.heap.size + 1 + 1 + 1, 1, none⟩ = some (.slice none 0 0) := (blk_cell D4.out 1).trans rfl
    have z2 : w4.cell? ⟨w.heap.size + 1 + 1 + 1, 2, none⟩ = some (.slice none 0 0) := (blk_cell D4.out 2).trans rfl
    have f0 := blk_frozen D4.out 0
    have f1 := blk_frozen D4.out 1
    have f2 := blk_frozen D4.out 2
    go_wp2_with (fail)
    refine bodyPost_ret (results_ct rfl _ _ (w.heap.size + 1 + 1 + 1) tabT #[.int .i64 r1, .slice A4 rz.length c4, .slice A5 r2.length c5] (0, 0) _ rfl (put3_blk (W := w4) D4.out) Try.underlying27 rfl (by kernel_rfl)) rfl ?_
    exact ⟨_, _, rfl, put3_R D4.out HR4.out, put3_S D4.out HS4.out, put3_below HB4.out (by omega)⟩
  · have HV : fixV n sz rs h v = (0, [], [], colCode n sz rs h) := if_neg hz
    rw [HV]
    have hne : (colCode n sz rs h != 0) = true := by simpa using hz
    generalize colCode n sz rs h = cc at *
    clear hz hk1 HCOL hB hC hd hc hB2 b2 b4 bh bv hW2
    go_enter Try.func32, Try.ntmps32
    have x0 := (blk_cell B2.out 0).trans (show _ = some (Value.int .i64 n) from rfl)
    have x1 := (blk_cell B2.out 1).trans (show _ = some (Value.slice B sz.length d) from rfl)
    have x2 := (blk_cell B2.out 2).trans (show _ = some (Value.slice A rs.length c) from rfl)
    have xh := (blk_cell BH.out 0).trans (show _ = some (Value.int .i64 h) from rfl)
    rw [HW.out] at x0 x1 x2 xh
    go_wp2_with (fail)
    (refine HCOL2.mono ?_; clear HCOL2 x0 x1 x2 xh; rintro e w3 ⟨rfl, hb3⟩; rw [← HW.out] at hb3)
    have HB3 := Aside0.mk (below_then HB2.out HB2.out.size hb3)
    have D4 := Aside0.mk (blk_below B4.out hb3)
    clear hb3
    have z0 : w3.cell? ⟨w.heap.size + 1 + 1 + 1, 0, none⟩ = some (.int .i64 0) := (blk_cell D4.out 0).trans rfl
    have z1 : w3.cell? ⟨w.heap.size + 1 + 1 + 1, 1, none⟩ = some (.slice none 0 0) := (blk_cell D4.out 1).trans rfl
    have z2 : w3.cell? ⟨w.heap.size + 1 + 1 + 1, 2, none⟩ = some (.slice none 0 0) := (blk_cell D4.out 2).trans rfl
    have f0 := blk_frozen D4.out 0
    have f1 := blk_frozen D4.out 1
    have f2 := blk_frozen D4.out 2
    go_wp2_with (fail)
    refine bodyPost_ret (results_ct rfl _ _ (w.heap.size + 1 + 1 + 1) tabT #[.int .i64 0, .slice none 0 0, .slice none 0 0] (0, 0) _ rfl (put3_blk (W := w3) D4.out) Try.underlying27 rfl (by kernel_rfl)) rfl ?_
    exact ⟨_, _, rfl, R_nil _ _ _ _ _, S_nil _ _ _ _ _, put3_below HB3.out (by omega)⟩
/-- What is told is small. -/
theorem fix_small (n : Int) (sz : List Int) (rs : List Row) (h v : Int) : 1 + ((fixV n sz rs h v).2.1.length : Int) + (totT (fixV n sz rs h v).2.2.1 : Int) < 9223372036854775807 := by
  unfold fixV
  by_cases hz : colCode n sz rs h = 0
  · rw [if_pos hz]
    generalize (rs.filter (hasV h.toNat v)).map (wo h.toNat) = ms
    by_cases he : ms = []
    · rw [if_pos he]
      simp [totT]
    · rw [if_neg he]
      unfold outV
      by_cases hs : ShapeOk n (cutL sz h.toNat) ms
      · rw [if_pos hs]
        have := shape_tot hs
        show 1 + ((cutL sz h.toNat).length : Int) + (totT (ms.mergeSort leT) : Int) < _
        omega
      · rw [if_neg hs]
        simp [totT]
  · rw [if_neg hz]
    simp [totT]
end Go.Proofs.Ytdahdeohmbadhaa.TFixC
