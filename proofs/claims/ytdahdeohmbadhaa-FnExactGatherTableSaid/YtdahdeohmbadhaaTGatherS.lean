/- Contract of the reference's GatherTable. -/
import Derived.Test.YtdahdeohmbadhaaTGather
namespace Go.Proofs.Ytdahdeohmbadhaa.TGather
open Go.RowKit Go.Lib Go.Proofs Go.Proofs.YtdahdeohmbadhaaW.PrintWords Go.Proofs.YtdahdeohmbadhaaW.PrintWords.Kd Go.Proofs.YtdahdeohmbadhaaW.PrintLast Go.Proofs.YtdahdeohmbadhaaW.PrintMore Go.Proofs.Ytdahdeohmbadhaa.G Go.Proofs.Ytdahdeohmbadhaa.Fam Go.Proofs.Ytdahdeohmbadhaa.Loops Go.Proofs.Ytdahdeohmbadhaa.MarkT Go.Proofs.Ytdahdeohmbadhaa.TSort Go.Proofs.Ytdahdeohmbadhaa.TCmp Go.Proofs.Ytdahdeohmbadhaa.TLess Go.Proofs.Ytdahdeohmbadhaa.TShape Go.Proofs.Ytdahdeohmbadhaa.TOk Go.Proofs.Ytdahdeohmbadhaa.TValid Go.Proofs.Ytdahdeohmbadhaa.TMerge Go.Proofs.Ytdahdeohmbadhaa.ExTC Go.Proofs.Ytdahdeohmbadhaa.TMade
set_option linter.unusedVariables false
set_option linter.unusedSimpArgs false

set_option maxHeartbeats 8000000 in
set_option maxRecDepth 100000 in
theorem specGather_calls (n : Int) (A1 : Option Addr) (c1 : Nat) (sz : List Int) (A2 : Option Addr) (c2 : Nat) (rs : List Row) (hz : sz.length ≤ 1048576) (hf : FewR rs) (w : World) (h1 : Kd.C (Kd.int .i64) w A1 sz.length sz) (hc1 : sz.length ≤ c1) (h2 : Kd.C dW w A2 rs.length rs) (hc2 : rs.length ≤ c2) :
    Calls Try.prog 16 #[.int .i64 n, .slice A1 sz.length c1, .slice A2 rs.length c2] w (MadeRes w 1 n sz rs) := by
  have hu := Try.underlying27
  have HOWN := own_calls A1 c1 sz hz (w.alloc (.cells #[.int .i64 0, .slice none 0 0, .slice none 0 0] tabT)) (Kd.C_alloc h1 _) hc1
  have b60 := Aside0.mk (blk_new w (.cells #[.int .i64 0, .slice none 0 0, .slice none 0 0] tabT))
  have HBA := Aside0.mk (show Below w.heap.size w (w.alloc (.cells #[.int .i64 0, .slice none 0 0, .slice none 0 0] tabT)) from below_alloc (Below.refl _ _) _)
  have H2 := Aside0.mk h2
  have HF := Aside0.mk hf
  have HC2 := Aside0.mk hc2
  clear h1 h2 hf hz hc1 hc2
  have HAS := Aside0.mk (show w.heap.size ≤ (w.alloc (.cells #[.int .i64 0, .slice none 0 0, .slice none 0 0] tabT)).heap.size from by simp)
  obtain ⟨WA, hWA⟩ : ∃ WA, WA = w.alloc (.cells #[.int .i64 0, .slice none 0 0, .slice none 0 0] tabT) := ⟨_, rfl⟩
  rw [← hWA] at HOWN b60 HBA HAS
  have HWA := Aside0.mk hWA
  rw [hWA] at HOWN
  clear hWA
  unfold MadeRes
  by_cases hs : ShapeOk n sz rs
  · simp only [if_pos hs]
    have HSH := fun W A c B hT => shape_calls B n A c sz A2 c2 rs W hT
    rw [decide_eq_true hs] at HSH
    clear hs
    go_enter Try.func16, Try.ntmps16
    go_wp2_with (fail)
    (refine HOWN.mono ?_; clear HOWN; rintro e w1 ⟨v1, rfl, hr1, hb1⟩; rw [← HWA.out] at hr1 hb1)
    obtain ⟨A3, c3, rfl, hc3, hC3⟩ := R_reads hr1
    have HR := Aside0.mk (R_lower hr1 HAS.out)
    have HBW := Aside0.mk (below_then HBA.out HAS.out hb1)
    have B6 := Aside0.mk (blk_below b60.out hb1)
    have HL6 := Aside0.mk (blk_lt B6.out)
    obtain ⟨W2, hW2⟩ : ∃ W2, W2 = w1.alloc (.cells #[.int .i64 n, .slice A3 sz.length c3, .slice A2 rs.length c2] tabT) := ⟨_, rfl⟩
    have hB2 : Below w1.heap.size w1 W2 := by rw [hW2]; exact below_alloc (Below.refl _ _) _
    have b6 : W2.heap[w.heap.size]? = some (.cells #[.int .i64 0, .slice none 0 0, .slice none 0 0] tabT (0, 0)) := blk_below B6.out hB2
    have b8 : W2.heap[w1.heap.size]? = some (.cells #[.int .i64 n, .slice A3 sz.length c3, .slice A2 rs.length c2] tabT (0, 0)) := by rw [hW2]; exact blk_new w1 _
    have hC2 : Kd.C dW W2 A2 rs.length rs := Kd.C_below (Kd.C_below H2.out HBW.out) hB2
    have hT : TabBox W2 w1.heap.size n A3 c3 sz A2 c2 rs := ⟨(blk_cell b8 0).trans rfl, (blk_cell b8 1).trans rfl, (blk_cell b8 2).trans rfl, Kd.C_below hC3 hB2, hc3, hC2, HC2.out⟩
    have HSH2 := HSH W2 A3 c3 w1.heap.size hT
    have HB6 := Aside0.mk b6
    have HB8 := Aside0.mk b8
    have HB2 := Aside0.mk hB2
    have HW := Aside0.mk hW2
    have HCC := Aside0.mk hC2
    have HROWS := fun q => rows_own_calls A2 c2 rs HF.out (W2.drewN q) (Kd.C_drewN hC2 q) HC2.out
    clear HSH hT b6 b8 hB2 hc3 hC3 hr1 hb1 hC2
    rw [hW2] at HSH2
    clear hW2
    go_wp2_with (fail)
    (refine HSH2.mono ?_; clear HSH2; rintro e w' ⟨rfl, q, rfl⟩; rw [← HW.out])
    have HROWS2 := HROWS q
    clear HROWS
    go_wp2_with (fail)
    (refine HROWS2.mono ?_; clear HROWS2; rintro e w4 ⟨v4, rfl, hs4, hb4⟩)
    have HSORT := lsort_rows (W2.drewN q).heap.size _ v4 rs w4 hs4 (by have h_ := HF.out.1; omega)
    obtain ⟨A4, c4, rfl⟩ := S_slice hs4
    have HB4 := Aside0.mk hb4
    clear hs4 hb4
    go_wp2_with (fail)
    (refine HSORT.mono ?_; clear HSORT; rintro e w3 ⟨v', rfl, hs3, hb3⟩)
    have BK6 := Aside0.mk (blk_below (blk_below (w := W2.drewN q) HB6.out HB4.out) hb3)
    have BK8 := Aside0.mk (blk_below (blk_below (w := W2.drewN q) HB8.out HB4.out) hb3)
    obtain ⟨A9, c9, rfl⟩ := S_slice hs3
    rw [List.length_mergeSort] at hs3
    have HS3 := Aside0.mk (S_bound hs3)
    have HLT := Aside0.mk (R_lt HR.out)
    have HR3 := Aside0.mk (R_below (R_below (R_drewN (R_below HR.out HB2.out) q) HB4.out) hb3)
    have HB3 := Aside0.mk (below_then (below_then (pw_below_drewN (below_then HBW.out HBW.out.size HB2.out) q) (by have h1_ := HBW.out.size; have h2_ := HB2.out.size; simp; omega) HB4.out) (by have h1_ := HBW.out.size; have h2_ := HB2.out.size; have h3_ := HB4.out.size; simp at h3_; omega) hb3)
    clear hs3 hb3
    have HNE : w.heap.size ≠ w1.heap.size := by have h_ := HL6.out; omega
    have HLE := Aside0.mk (show w.heap.size ≤ w1.heap.size from HBW.out.size)
    generalize hg6 : w.heap.size = g6 at BK6 HNE ⊢
    have HG6 := Aside0.mk hg6
    clear hg6
    generalize hg8 : w1.heap.size = g8 at BK8 HNE ⊢
    have HG8 := Aside0.mk hg8
    clear hg8
    have x0 : w3.cell? ⟨g8, 0, none⟩ = some (.int .i64 n) := (blk_cell BK8.out 0).trans rfl
    have x1 : w3.cell? ⟨g8, 1, none⟩ = some (.slice A3 sz.length c3) := (blk_cell BK8.out 1).trans rfl
    have x2 : w3.cell? ⟨g8, 2, none⟩ = some (.slice A2 rs.length c2) := (blk_cell BK8.out 2).trans rfl
    have f2 := blk_frozen BK8.out 2
    have z0 : w3.cell? ⟨g6, 0, none⟩ = some (.int .i64 0) := (blk_cell BK6.out 0).trans rfl
    have z1 : w3.cell? ⟨g6, 1, none⟩ = some (.slice none 0 0) := (blk_cell BK6.out 1).trans rfl
    have z2 : w3.cell? ⟨g6, 2, none⟩ = some (.slice none 0 0) := (blk_cell BK6.out 2).trans rfl
    have e0 := blk_frozen BK6.out 0
    have e1 := blk_frozen BK6.out 1
    have e2 := blk_frozen BK6.out 2
    go_wp2_with (fail)
    have bk6 := blk_far BK6.out (p := ⟨g8, 2, none⟩) HNE (.slice A9 rs.length c9)
    refine bodyPost_ret (results_ct rfl _ _ g6 tabT #[.int .i64 n, .slice A3 sz.length c3, .slice A9 rs.length c9] (0, 0) _ rfl (put3_blk (W := w3.setCell ⟨g8, 2, none⟩ (.slice A9 rs.length c9)) bk6) Try.underlying27 rfl (by kernel_rfl)) rfl ?_
    refine ⟨_, _, rfl, put3_R bk6 (R_set HR3.out BK8.out (by decide) 2 _), put3_S bk6 (S_mono (S_lower (S_set HS3.out BK8.out (by decide) 2 _) ?_) (fun k hk e => ?_)), put3_below (below_set HB3.out ?_) ?_⟩
    · have h1_ := HBW.out.size
      have h2_ := HB2.out.size
      simp
      omega
    · have h1_ := HLT.out k e.symm
      have h2_ := HB2.out.size
      have h3_ := hk.2.1
      simp at h3_
      omega
    · have h1_ := HLE.out
      have h3_ := HG8.out
      omega
    · have h2_ := HG6.out
      omega
  · simp only [if_neg hs]
    have HSH := fun W A c B hT => shape_calls B n A c sz A2 c2 rs W hT
    rw [decide_eq_false hs] at HSH
    clear hs
    go_enter Try.func16, Try.ntmps16
    go_wp2_with (fail)
    (refine HOWN.mono ?_; clear HOWN; rintro e w1 ⟨v1, rfl, hr1, hb1⟩; rw [← HWA.out] at hr1 hb1)
    obtain ⟨A3, c3, rfl, hc3, hC3⟩ := R_reads hr1
    have HBW := Aside0.mk (below_then HBA.out HAS.out hb1)
    have B6 := Aside0.mk (blk_below b60.out hb1)
    obtain ⟨W2, hW2⟩ : ∃ W2, W2 = w1.alloc (.cells #[.int .i64 n, .slice A3 sz.length c3, .slice A2 rs.length c2] tabT) := ⟨_, rfl⟩
    have hB2 : Below w1.heap.size w1 W2 := by rw [hW2]; exact below_alloc (Below.refl _ _) _
    have b6 : W2.heap[w.heap.size]? = some (.cells #[.int .i64 0, .slice none 0 0, .slice none 0 0] tabT (0, 0)) := blk_below B6.out hB2
    have b8 : W2.heap[w1.heap.size]? = some (.cells #[.int .i64 n, .slice A3 sz.length c3, .slice A2 rs.length c2] tabT (0, 0)) := by rw [hW2]; exact blk_new w1 _
    have hT : TabBox W2 w1.heap.size n A3 c3 sz A2 c2 rs := ⟨(blk_cell b8 0).trans rfl, (blk_cell b8 1).trans rfl, (blk_cell b8 2).trans rfl, Kd.C_below hC3 hB2, hc3, Kd.C_below (Kd.C_below H2.out HBW.out) hB2, HC2.out⟩
    have HSH2 := HSH W2 A3 c3 w1.heap.size hT
    have HB6 := Aside0.mk b6
    have HB2 := Aside0.mk hB2
    have HW := Aside0.mk hW2
    clear HSH hT b6 b8 hB2 hc3 hC3 hr1 hb1
    rw [hW2] at HSH2
    clear hW2
    go_wp2_with (fail)
    (refine HSH2.mono ?_; clear HSH2; rintro e w' ⟨rfl, q, rfl⟩; rw [← HW.out])
    have f0 := blk_frozen HB6.out 0
    have f1 := blk_frozen HB6.out 1
    have f2 := blk_frozen HB6.out 2
    have z0 : W2.cell? ⟨w.heap.size, 0, none⟩ = some (.int .i64 0) := (blk_cell HB6.out 0).trans rfl
    have z1 : W2.cell? ⟨w.heap.size, 1, none⟩ = some (.slice none 0 0) := (blk_cell HB6.out 1).trans rfl
    have z2 : W2.cell? ⟨w.heap.size, 2, none⟩ = some (.slice none 0 0) := (blk_cell HB6.out 2).trans rfl
    go_wp2_with (fail)
    refine bodyPost_ret (results_ct rfl _ _ w.heap.size tabT #[.int .i64 0, .slice none 0 0, .slice none 0 0] (0, 0) _ rfl (put3_blk (W := W2.drewN q) HB6.out) Try.underlying27 rfl (by kernel_rfl)) rfl ?_
    exact ⟨_, _, rfl, R_nil _ _ _ _ _, S_nil _ _ _ _ _, put3_below (pw_below_drewN (below_then HBW.out HBW.out.size HB2.out) q) (Nat.le_refl _)⟩
end Go.Proofs.Ytdahdeohmbadhaa.TGather
