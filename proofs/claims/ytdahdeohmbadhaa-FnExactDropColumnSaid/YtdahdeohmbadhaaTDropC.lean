/- What DropColumn tells, the program's and the reference's, and their contracts. -/
import Derived.Test.YtdahdeohmbadhaaTDrop
import Derived.Test.YtdahdeohmbadhaaGx10
namespace Go.Proofs.Ytdahdeohmbadhaa.TDropC
open Go.RowKit Go.Lib Go.Proofs Go.Proofs.YtdahdeohmbadhaaW.PrintWords Go.Proofs.YtdahdeohmbadhaaW.PrintWords.Kd Go.Proofs.YtdahdeohmbadhaaW.PrintLast Go.Proofs.YtdahdeohmbadhaaW.PrintMore Go.Proofs.Ytdahdeohmbadhaa.G Go.Proofs.Ytdahdeohmbadhaa.Fam Go.Proofs.Ytdahdeohmbadhaa.Loops Go.Proofs.Ytdahdeohmbadhaa.MarkT Go.Proofs.Ytdahdeohmbadhaa.TSort Go.Proofs.Ytdahdeohmbadhaa.TCmp Go.Proofs.Ytdahdeohmbadhaa.TLess Go.Proofs.Ytdahdeohmbadhaa.TShape Go.Proofs.Ytdahdeohmbadhaa.TOk Go.Proofs.Ytdahdeohmbadhaa.TValid Go.Proofs.Ytdahdeohmbadhaa.TMerge Go.Proofs.Ytdahdeohmbadhaa.ExTC Go.Proofs.Ytdahdeohmbadhaa.TMade Go.Proofs.Ytdahdeohmbadhaa.TGather Go.Proofs.Ytdahdeohmbadhaa.TCol Go.Proofs.Ytdahdeohmbadhaa.TDrop
set_option linter.unusedVariables false
set_option linter.unusedSimpArgs false

/-- What is told. -/
def dropV (n : Int) (sz : List Int) (rs : List Row) (h : Int) : Int × List Int × List Row × Int :=
  if colCode n sz rs h = 0 then outV n (cutL sz h.toNat) (rs.map (wo h.toNat)) else (0, [], [], colCode n sz rs h)
theorem spec_is (n : Int) (sz : List Int) (rs : List Row) (h : Int) : Ev (fun k => spec_DropColumn.f k n sz rs h) (dropV n sz rs h) := by
  unfold spec_DropColumn.f dropV
  refine Ev.bind (a := colCode n sz rs h) (Ev.now _) ?_
  by_cases hc : colCode n sz rs h = 0
  · simp only [if_pos hc]
    obtain ⟨hT, hh, _⟩ := code_zero.1 hc
    obtain ⟨m, rfl⟩ : ∃ m : Nat, h = (m : Int) := ⟨h.toNat, by omega⟩
    rw [Int.toNat_natCast]
    have hm : m < sz.length := by omega
    have h1 := hT.1.2.1
    have h2 := hT.1.2.2.1
    have hloop : ∀ (d i : Nat), i ≤ rs.length → rs.length - i = d → Ev (fun k => spec_DropColumn.l0 k (m : Int) ((rs.take i).map (wo m)) (i : Int) n sz rs) (outV n (cutL sz m) (rs.map (wo m))) := by
      intro d
      induction d with
      | zero =>
        intro i hi hd
        obtain rfl : i = rs.length := by omega
        rw [List.take_length]
        refine Ev.step (f := fun _ => some (outV n (cutL sz m) (rs.map (wo m)))) (fun k => ?_) (Ev.now _)
        simp only [spec_DropColumn.l0]
        exact (if_neg (by omega)).trans (tail_is n sz m _ hm (by omega) (by rw [List.length_map]; omega))
      | succ d ih =>
        intro i hi hd
        have hlt : i < rs.length := by omega
        have h3 := ih (i + 1) (by omega) (by omega)
        have hlen := len_of hT (List.getElem_mem hlt)
        have hw : wrap64 ((i : Int) + 1) = ((i + 1 : Nat) : Int) := by rw [wrap_id (by omega) (by omega)]; omega
        rw [List.take_succ_eq_append_getElem hlt, List.map_append] at h3
        refine Ev.step (fun k => ?_) h3
        simp only [spec_DropColumn.l0]
        refine (if_pos (Int.ofNat_lt.2 hlt)).trans ((if_pos (Int.natCast_nonneg i)).trans ?_)
        rw [rdW rs hlt, lwithout_is rs[i].f1 m (by omega) (by omega), Option.bind_some]
        refine (if_pos (by rw [List.length_map, List.length_take]; omega)).trans ?_
        rw [hw]
        rfl
    have := hloop rs.length 0 (Nat.zero_le _) rfl
    rw [List.take_zero, List.map_nil] at this
    exact this
  · simp only [if_neg hc]
    exact Ev.now _
theorem dropped_drop (n : Int) (sz : List Int) (rs : List Row) (h : Int) (hc : colCode n sz rs h = 0) : Ev (fun k => impl_Table_dropped.f k n sz rs h 0) (dropV n sz rs h) := by
  unfold dropV
  rw [if_pos hc]
  obtain ⟨hT, hh, _⟩ := code_zero.1 hc
  obtain ⟨m, rfl⟩ : ∃ m : Nat, h = (m : Int) := ⟨h.toNat, by omega⟩
  rw [Int.toNat_natCast]
  have h2 := hT.1.2.2.1
  have := dropped_is n sz rs m 0 (fun _ => true) hT (by omega) (fun r _ => rfl)
  rw [List.filter_eq_self.2 (fun _ _ => rfl), if_neg (fun e => by have h3 := congrArg List.length e; rw [List.length_map] at h3; simp at h3; rw [h3] at h2; simp at h2)] at this
  exact this

/-! ### contracts -/
def DropRes (W : World) (n : Int) (sz : List Int) (rs : List Row) (h : Int) : Ending → World → Prop := TabRes W (dropV n sz rs h).1 (dropV n sz rs h).2.1 (dropV n sz rs h).2.2.1 (dropV n sz rs h).2.2.2
theorem specDrop_calls (n : Int) (B : Option Addr) (d : Nat) (sz : List Int) (A : Option Addr) (c : Nat) (rs : List Row) (h : Int) (w : World) (hB : Kd.C (Kd.int .i64) w B sz.length sz) (hd : sz.length ≤ d) (hC : Kd.C dW w A rs.length rs) (hc : rs.length ≤ c) :
    Calls Try.prog 28 #[.agg #[.int .i64 n, .slice B sz.length d, .slice A rs.length c], .int .i64 h] w (DropRes w n sz rs h) := by
  obtain ⟨k, hk⟩ := (spec_is n sz rs h).rounds
  exact spec_DropColumn.calls k n B d sz A c rs h _ _ _ _ w hB hd hC hc hk
set_option maxHeartbeats 4000000 in
set_option maxRecDepth 100000 in
theorem keep_calls (W : World) (s : Int) (A : Option Addr) (c : Nat) (l : List Int) : Calls Try.prog 77 (#[] ++ #[.agg #[.int .i64 s, .slice A l.length c]] ++ #[]) W fun e w' => e = .returned (.bool true) ∧ Below W.heap.size W w' := by
  rw [Array.append_empty, Array.empty_append]
  go_enter Try.func77, Try.ntmps77
  go_wp2_with (fail)
  go_ret
  exact ⟨rfl, below_alloc (Below.refl _ _) _⟩
set_option maxHeartbeats 8000000 in
set_option maxRecDepth 100000 in
theorem implDrop_calls (n : Int) (B : Option Addr) (d : Nat) (sz : List Int) (A : Option Addr) (c : Nat) (rs : List Row) (h : Int) (w : World) (hB : Kd.C (Kd.int .i64) w B sz.length sz) (hd : sz.length ≤ d) (hC : Kd.C dW w A rs.length rs) (hc : rs.length ≤ c) :
    Calls Try.prog 30 #[.agg #[.int .i64 n, .slice B sz.length d, .slice A rs.length c], .int .i64 h] w (DropRes w n sz rs h) := by
  have hu := Try.underlying27
  obtain ⟨k1, hk1⟩ := (col_is n sz rs h (lens_R hC).2).rounds
  have HCB := Aside0.mk (fun W (hb : Below w.heap.size w W) => Kd.C_below hB hb)
  have HCC := Aside0.mk (fun W (hb : Below w.heap.size w W) => Kd.C_below hC hb)
  have HD := Aside0.mk hd
  have HC := Aside0.mk hc
  have HCOL := fun W hb => impl_columnCode.calls k1 n B d sz A c rs h _ W (HCB.out W hb) hd (HCC.out W hb) hc hk1
  obtain ⟨W2, hW2⟩ : ∃ W2, W2 = (w.alloc (.cells #[.int .i64 n, .slice B sz.length d, .slice A rs.length c] tabT)).alloc (.cells #[.int .i64 0, .slice none 0 0, .slice none 0 0] tabT) := ⟨_, rfl⟩
  have hB2 : Below w.heap.size w W2 := by rw [hW2]; exact below_alloc (below_alloc (Below.refl _ _) _) _
  have b2 : W2.heap[w.heap.size]? = some (.cells #[.int .i64 n, .slice B sz.length d, .slice A rs.length c] tabT (0, 0)) := by rw [hW2]; exact blk_alloc (blk_new w _) _
  have b4 : W2.heap[w.heap.size + 1]? = some (.cells #[.int .i64 0, .slice none 0 0, .slice none 0 0] tabT (0, 0)) := by
    rw [hW2]
    simpa using blk_new (w.alloc (.cells #[.int .i64 n, .slice B sz.length d, .slice A rs.length c] tabT)) (.cells #[.int .i64 0, .slice none 0 0, .slice none 0 0] tabT)
  have HCOL2 := HCOL W2 hB2
  have HW := Aside0.mk hW2
  have HB2 := Aside0.mk hB2
  have B2 := Aside0.mk b2
  have B4 := Aside0.mk b4
  rw [hW2] at HCOL2
  unfold DropRes
  by_cases hz : colCode n sz rs h = 0
  · obtain ⟨k2, hk2⟩ := (dropped_drop n sz rs h hz).rounds
    rw [hz] at HCOL2
    obtain ⟨r1, rz, r2, r3, hV⟩ : ∃ a b c d, dropV n sz rs h = (a, b, c, d) := ⟨_, _, _, _, rfl⟩
    rw [hV] at hk2
    rw [hV]
    have eK : ∀ args w, (callFunc 77 args).run Try.prog w = .ok (.enter 77 args) w := enters_of Try.func77 (by kernel_rfl) rfl
    have HDR := fun W hb => impl_Table_dropped.calls k2 n B d sz A c rs h 0 r1 rz r2 r3 W (HCB.out W hb) hd (HCC.out W hb) hc 77 #[] #[] eK (fun W' s A' c' l b _ _ _ hb' => by
      obtain rfl : true = b := Option.some.inj hb'
      exact keep_calls W' s A' c' l) hk2
    clear hV hz hk1 hk2 HCOL hB hC hd hc hB2 b2 b4 hW2 eK
    go_enter Try.func30, Try.ntmps30
    have x0 := (blk_cell B2.out 0).trans (show _ = some (Value.int .i64 n) from rfl)
    have x1 := (blk_cell B2.out 1).trans (show _ = some (Value.slice B sz.length d) from rfl)
    have x2 := (blk_cell B2.out 2).trans (show _ = some (Value.slice A rs.length c) from rfl)
    rw [HW.out] at x0 x1 x2
    go_wp2_with (fail)
    (refine HCOL2.mono ?_; clear HCOL2 x0 x1 x2; rintro e w3 ⟨rfl, hb3⟩; rw [← HW.out] at hb3)
    have HB3 := Aside0.mk (below_then HB2.out HB2.out.size hb3)
    have C2 := Aside0.mk (blk_below B2.out hb3)
    have C4 := Aside0.mk (blk_below B4.out hb3)
    clear hb3
    have HDR3 := HDR w3 HB3.out
    clear HDR
    have y0 := (blk_cell C2.out 0).trans (show _ = some (Value.int .i64 n) from rfl)
    have y1 := (blk_cell C2.out 1).trans (show _ = some (Value.slice B sz.length d) from rfl)
    have y2 := (blk_cell C2.out 2).trans (show _ = some (Value.slice A rs.length c) from rfl)
    go_wp2_with (fail)
    (refine HDR3.mono ?_; clear HDR3 y0 y1 y2; rintro e w4 ⟨v1, v2, rfl, hr4, hs4, hb4⟩)
    obtain ⟨A4, c4, rfl⟩ := R_slice hr4
    obtain ⟨A5, c5, rfl⟩ := S_slice hs4
    have HR4 := Aside0.mk (R_lower hr4 HB3.out.size)
    have HS4 := Aside0.mk (S_lower hs4 HB3.out.size)
    have D4 := Aside0.mk (blk_below C4.out hb4)
    have HB4 := Aside0.mk (below_then HB3.out HB3.out.size hb4)
    clear hr4 hs4 hb4
    have z0 : w4.cell? ⟨w.heap.size + 1, 0, none⟩ = some (.int .i64 0) := (blk_cell D4.out 0).trans rfl
    have z1 : w4.cell? ⟨w.heap.size + 1, 1, none⟩ = some (.slice none 0 0) := (blk_cell D4.out 1).trans rfl
    have z2 : w4.cell? ⟨w.heap.size + 1, 2, none⟩ = some (.slice none 0 0) := (blk_cell D4.out 2).trans rfl
    have f0 := blk_frozen D4.out 0
    have f1 := blk_frozen D4.out 1
    have f2 := blk_frozen D4.out 2
    go_wp2_with (fail)
    refine bodyPost_ret (results_ct rfl _ _ (w.heap.size + 1) tabT #[.int .i64 r1, .slice A4 rz.length c4, .slice A5 r2.length c5] (0, 0) _ rfl (put3_blk (W := w4) D4.out) Try.underlying27 rfl (by kernel_rfl)) rfl ?_
    exact ⟨_, _, rfl, put3_R D4.out HR4.out, put3_S D4.out HS4.out, put3_below HB4.out (Nat.le_succ _)⟩
  · have HV : dropV n sz rs h = (0, [], [], colCode n sz rs h) := if_neg hz
    rw [HV]
    have hne : (colCode n sz rs h != 0) = true := by simpa using hz
    generalize colCode n sz rs h = cc at *
    clear hz hk1 HCOL hB hC hd hc hB2 b2 b4 hW2
    go_enter Try.func30, Try.ntmps30
    have x0 := (blk_cell B2.out 0).trans (show _ = some (Value.int .i64 n) from rfl)
    have x1 := (blk_cell B2.out 1).trans (show _ = some (Value.slice B sz.length d) from rfl)
    have x2 := (blk_cell B2.out 2).trans (show _ = some (Value.slice A rs.length c) from rfl)
    rw [HW.out] at x0 x1 x2
    go_wp2_with (fail)
    (refine HCOL2.mono ?_; clear HCOL2 x0 x1 x2; rintro e w3 ⟨rfl, hb3⟩; rw [← HW.out] at hb3)
    have HB3 := Aside0.mk (below_then HB2.out HB2.out.size hb3)
    have D4 := Aside0.mk (blk_below B4.out hb3)
    clear hb3
    have z0 : w3.cell? ⟨w.heap.size + 1, 0, none⟩ = some (.int .i64 0) := (blk_cell D4.out 0).trans rfl
    have z1 : w3.cell? ⟨w.heap.size + 1, 1, none⟩ = some (.slice none 0 0) := (blk_cell D4.out 1).trans rfl
    have z2 : w3.cell? ⟨w.heap.size + 1, 2, none⟩ = some (.slice none 0 0) := (blk_cell D4.out 2).trans rfl
    have f0 := blk_frozen D4.out 0
    have f1 := blk_frozen D4.out 1
    have f2 := blk_frozen D4.out 2
    go_wp2_with (fail)
    refine bodyPost_ret (results_ct rfl _ _ (w.heap.size + 1) tabT #[.int .i64 0, .slice none 0 0, .slice none 0 0] (0, 0) _ rfl (put3_blk (W := w3) D4.out) Try.underlying27 rfl (by kernel_rfl)) rfl ?_
    exact ⟨_, _, rfl, R_nil _ _ _ _ _, S_nil _ _ _ _ _, put3_below HB3.out (Nat.le_succ _)⟩
/-- What is told is small. -/
theorem drop_small (n : Int) (sz : List Int) (rs : List Row) (h : Int) : 1 + ((dropV n sz rs h).2.1.length : Int) + (totT (dropV n sz rs h).2.2.1 : Int) < 9223372036854775807 := by
  unfold dropV
  by_cases hz : colCode n sz rs h = 0
  · rw [if_pos hz]
    unfold outV
    by_cases hs : ShapeOk n (cutL sz h.toNat) (rs.map (wo h.toNat))
    · rw [if_pos hs]
      have := shape_tot hs
      show 1 + ((cutL sz h.toNat).length : Int) + (totT ((rs.map (wo h.toNat)).mergeSort leT) : Int) < _
      omega
    · rw [if_neg hs]
      simp [totT]
  · rw [if_neg hz]
    simp [totT]
end Go.Proofs.Ytdahdeohmbadhaa.TDropC
