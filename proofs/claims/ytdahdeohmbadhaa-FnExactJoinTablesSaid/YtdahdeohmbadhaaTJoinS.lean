/- Contracts of the reference's l06Combine and JoinTables. -/
import Derived.Test.YtdahdeohmbadhaaTJoinP
namespace Go.Proofs.Ytdahdeohmbadhaa.TJoin
open Go.RowKit Go.Lib Go.Proofs Go.Proofs.YtdahdeohmbadhaaW.PrintWords Go.Proofs.YtdahdeohmbadhaaW.PrintWords.Kd Go.Proofs.YtdahdeohmbadhaaW.PrintLast Go.Proofs.YtdahdeohmbadhaaW.PrintMore Go.Proofs.Ytdahdeohmbadhaa.G Go.Proofs.Ytdahdeohmbadhaa.Fam Go.Proofs.Ytdahdeohmbadhaa.Loops Go.Proofs.Ytdahdeohmbadhaa.MarkT Go.Proofs.Ytdahdeohmbadhaa.TSort Go.Proofs.Ytdahdeohmbadhaa.TCmp Go.Proofs.Ytdahdeohmbadhaa.TLess Go.Proofs.Ytdahdeohmbadhaa.TShape Go.Proofs.Ytdahdeohmbadhaa.TOk Go.Proofs.Ytdahdeohmbadhaa.TValid Go.Proofs.Ytdahdeohmbadhaa.TMerge Go.Proofs.Ytdahdeohmbadhaa.ExTC Go.Proofs.Ytdahdeohmbadhaa.TMade Go.Proofs.Ytdahdeohmbadhaa.TGather
set_option linter.unusedVariables false
set_option linter.unusedSimpArgs false

theorem made_out (W : World) (n : Int) (z : List Int) (rs : List Row) : MadeRes W 3 n z rs = TabRes W (outV n z rs).1 (outV n z rs).2.1 (outV n z rs).2.2.1 (outV n z rs).2.2.2 := by
  unfold MadeRes outV
  by_cases hs : ShapeOk n z rs
  · funext e w'
    simp only [if_pos hs]
  · funext e w'
    simp only [if_neg hs]
instance (n : Int) (sz : List Int) (rs : List Row) : Decidable (TabOk n sz rs) := by unfold TabOk; exact inferInstance
/-- The code of two tables. -/
def twoCode (alike : Bool) (n : Int) (sz : List Int) (rs : List Row) (m : Int) (zs : List Int) (us : List Row) : Int :=
  if TabOk n sz rs ∧ TabOk m zs us then (if sz.length = zs.length ∧ (alike = true → n = m) then 0 else 2) else 1
/-- A table that is in a variable. -/
def InBox (W : World) (g : Nat) (n : Int) (A1 : Option Addr) (c1 : Nat) (sz : List Int) (A2 : Option Addr) (c2 : Nat) (rs : List Row) : Prop :=
  W.heap[g]? = some (.cells #[.int .i64 n, .slice A1 sz.length c1, .slice A2 rs.length c2] tabT (0, 0)) ∧ Kd.C (Kd.int .i64) W A1 sz.length sz ∧ sz.length ≤ c1 ∧ Kd.C dW W A2 rs.length rs ∧ rs.length ≤ c2
theorem InBox.box {W : World} {g : Nat} {n : Int} {A1 : Option Addr} {c1 : Nat} {sz : List Int} {A2 : Option Addr} {c2 : Nat} {rs : List Row} (h : InBox W g n A1 c1 sz A2 c2 rs) : TabBox W g n A1 c1 sz A2 c2 rs :=
  ⟨(blk_cell h.1 0).trans rfl, (blk_cell h.1 1).trans rfl, (blk_cell h.1 2).trans rfl, h.2.1, h.2.2.1, h.2.2.2.1, h.2.2.2.2⟩
theorem InBox.later {W W' : World} {g : Nat} {n : Int} {A1 : Option Addr} {c1 : Nat} {sz : List Int} {A2 : Option Addr} {c2 : Nat} {rs : List Row} (h : InBox W g n A1 c1 sz A2 c2 rs) (hb : Below W.heap.size W W') : InBox W' g n A1 c1 sz A2 c2 rs :=
  ⟨blk_below h.1 hb, Kd.C_below h.2.1 hb, h.2.2.1, Kd.C_below h.2.2.2.1 hb, h.2.2.2.2⟩
/-- What is told of two tables. -/
def joinV (n : Int) (sz : List Int) (rs : List Row) (m : Int) (zs : List Int) (us : List Row) : Int × List Int × List Row × Int :=
  if twoCode true n sz rs m zs us = 0 then (if allP sel zs rs us = [] then (0, [], [], 2) else outV n (mulL sz zs) (allP sel zs rs us)) else (0, [], [], twoCode true n sz rs m zs us)
def JoinRes (W : World) (n : Int) (sz : List Int) (rs : List Row) (m : Int) (zs : List Int) (us : List Row) : Ending → World → Prop := TabRes W (joinV n sz rs m zs us).1 (joinV n sz rs m zs us).2.1 (joinV n sz rs m zs us).2.2.1 (joinV n sz rs m zs us).2.2.2
theorem mul_len (sz zs : List Int) : (mulL sz zs).length = sz.length := by simp [mulL]

set_option maxHeartbeats 8000000 in
set_option maxRecDepth 100000 in
theorem combineS_calls (g0 g1 : Nat) (hne : g0 ≠ g1) (n : Int) (A1 : Option Addr) (c1 : Nat) (sz : List Int) (A2 : Option Addr) (c2 : Nat) (rs : List Row) (m : Int) (B1 : Option Addr) (d1 : Nat) (zs : List Int) (B2 : Option Addr) (d2 : Nat) (us : List Row) (w0 w : World) (hB : Below w0.heap.size w0 w) (h0 : InBox w g0 n A1 c1 sz A2 c2 rs) (h1 : InBox w g1 m B1 d1 zs B2 d2 us) :
    Calls Try.prog 79 #[.pointer (some ⟨g0, 0, none⟩), .pointer (some ⟨g1, 0, none⟩), .int .i64 0] w fun e w' => JoinRes w0 n sz rs m zs us e w' ∧ Below w.heap.size w w' := by
  have hu := Try.underlying27
  have hbw := below_alloc (Below.refl w.heap.size w) (.cells #[.int .i64 0, .slice none 0 0, .slice none 0 0] tabT)
  obtain ⟨W2, hW2⟩ : ∃ W2, W2 = w.alloc (.cells #[.int .i64 0, .slice none 0 0, .slice none 0 0] tabT) := ⟨_, rfl⟩
  rw [← hW2] at hbw
  have b6 : W2.heap[w.heap.size]? = some (.cells #[.int .i64 0, .slice none 0 0, .slice none 0 0] tabT (0, 0)) := by rw [hW2]; exact blk_new w _
  have i0 := h0.later hbw
  have i1 := h1.later hbw
  have HOK0 := ok_calls g0 n A1 c1 sz A2 c2 rs W2 i0.box (decide (TabOk n sz rs)) (by simp)
  have HOK1 := fun q => ok_calls g1 m B1 d1 zs B2 d2 us (W2.drewN q) ((i1.later (pw_below_drewN (Below.refl _ _) q)).box) (decide (TabOk m zs us)) (by simp)
  have HB := Aside0.mk hB
  have HBW := Aside0.mk hbw
  have I0 := Aside0.mk i0
  have I1 := Aside0.mk i1
  have B6 := Aside0.mk b6
  have HW := Aside0.mk hW2
  have HN := Aside0.mk hne
  rw [hW2] at HOK0
  clear hB hbw i0 i1 b6 hW2 hne h0 h1
  have f0 := blk_frozen B6.out 0
  have f1 := blk_frozen B6.out 1
  have f2 := blk_frozen B6.out 2
  have z0 : W2.cell? ⟨w.heap.size, 0, none⟩ = some (.int .i64 0) := (blk_cell B6.out 0).trans rfl
  have z1 : W2.cell? ⟨w.heap.size, 1, none⟩ = some (.slice none 0 0) := (blk_cell B6.out 1).trans rfl
  have z2 : W2.cell? ⟨w.heap.size, 2, none⟩ = some (.slice none 0 0) := (blk_cell B6.out 2).trans rfl
  unfold JoinRes
  by_cases ht : TabOk n sz rs
  · rw [decide_eq_true ht] at HOK0
    by_cases hs : TabOk m zs us
    · rw [decide_eq_true hs] at HOK1
      by_cases hl : sz.length = zs.length ∧ n = m
      · have hc : twoCode true n sz rs m zs us = 0 := by unfold twoCode; rw [if_pos ⟨ht, hs⟩, if_pos ⟨hl.1, fun _ => hl.2⟩]
        have hne1 : ((sz.length : Int) != (zs.length : Int)) = false := by rw [hl.1]; simp
        have hne2 : (n != m) = false := by rw [hl.2]; simp
        have t1 := ht.1.2.1
        have t2 := ht.1.2.2.1
        have u2 := hs.1.2.2.1
        obtain ⟨k, hk⟩ := (cross_is n m (mulL sz zs) sz zs rs us sz.length t1.2 (mul_len sz zs) hl.1.symm (fun r hr => (ht.1.2.2.2.2 r hr).2.1) (fun r hr => by rw [hl.1]; exact (hs.1.2.2.2.2 r hr).2.1) t2.2 u2.2 0 rfl rfl).rounds
        by_cases hemp : allP sel zs rs us = []
        case neg =>
          have hV : joinV n sz rs m zs us = outV n (mulL sz zs) (allP sel zs rs us) := (if_pos hc).trans (if_neg hemp)
          have hpos : (allP sel zs rs us).take 701 ≠ [] := by
            cases hx : allP sel zs rs us with
            | nil => exact absurd hx hemp
            | cons a l => simp
          clear hemp
          have hmo := made_out w0 n (mulL sz zs) ((allP sel zs rs us).take 701)
          rw [out_take, ← hV] at hmo
          have hll : ((allP sel zs rs us).take 701).length ≤ 1048576 := by rw [List.length_take]; omega
          have HCR := fun q => spec_l06Cross.calls k n A1 c1 sz A2 c2 rs m B1 d1 zs B2 d2 us 0 _ _ (W2.drewN q) (Kd.C_drewN I0.out.2.1 q) I0.out.2.2.1 (Kd.C_drewN I0.out.2.2.2.1 q) I0.out.2.2.2.2 (Kd.C_drewN I1.out.2.1 q) I1.out.2.2.1 (Kd.C_drewN I1.out.2.2.2.1 q) I1.out.2.2.2.2 g0 g1 I0.out.1 I1.out.1 HN.out hk
          generalize (allP sel zs rs us).take 701 = R at *
          generalize mulL sz zs = Z at *
          have hR0 : ((R.length : Int) == 0) = false := by
            cases R with
            | nil => exact absurd rfl hpos
            | cons a l => simp; omega
          have HMO := Aside0.mk hmo
          have HLL := Aside0.mk hll
          clear hmo hV hc hk hpos t1 t2 u2 ht hs hl hll
          generalize joinV n sz rs m zs us = V at *
          go_enter Try.func79, Try.ntmps79
          go_wp2_with (fail)
          (refine HOK0.mono ?_; clear HOK0; rintro e w' ⟨rfl, q, rfl⟩; rw [← HW.out])
          have HOK2 := HOK1 q
          clear HOK1
          go_wp2_with (fail)
          (refine HOK2.mono ?_; clear HOK2; rintro e w' ⟨rfl, q2, rfl⟩)
          have x1 := (blk_cell I0.out.1 1).trans (show _ = some (Value.slice A1 sz.length c1) from rfl)
          have y1 := (blk_cell I1.out.1 1).trans (show _ = some (Value.slice B1 zs.length d1) from rfl)
          have x0 := (blk_cell I0.out.1 0).trans (show _ = some (Value.int .i64 n) from rfl)
          have y0 := (blk_cell I1.out.1 0).trans (show _ = some (Value.int .i64 m) from rfl)
          go_wp2_with (fail)
          go_quiet (fail)
          rw [World.drewN_drewN]
          have HCR2 := HCR (q + q2 + nq)
          clear HCR x0 x1 y0 y1
          go_wp2_with (fail)
          (refine HCR2.mono ?_; clear HCR2; rintro e w3 ⟨v0, v1, rfl, hs3, hr3, hb3⟩)
          obtain ⟨A9, c9, rfl⟩ := S_slice hs3
          obtain ⟨A8, c8, rfl⟩ := R_slice hr3
          have HB3 := Aside0.mk (below_then (pw_below_drewN HBW.out (q + q2 + nq)) (by have h_ := HBW.out.size; simpa using h_) hb3)
          have HLW := Aside0.mk (show w0.heap.size ≤ (W2.drewN (q + q2 + nq)).heap.size by have h_ := HBW.out.size; have h2_ := HB.out.size; simp; omega)
          have HMD := made_calls (n) (.slice A8 Z.length c8) (.slice A9 R.length c9) Z R w0 w3 (below_then HB.out HB.out.size HB3.out) (R_lower hr3 HLW.out) (S_lower hs3 HLW.out) HLL.out
          have K6 := Aside0.mk (blk_below (w := W2.drewN (q + q2 + nq)) B6.out hb3)
          have xn := (blk_cell (blk_below (w := W2.drewN (q + q2 + nq)) I0.out.1 hb3) 0).trans (show _ = some (Value.int .i64 n) from rfl)
          have xm := (blk_cell (blk_below (w := W2.drewN (q + q2 + nq)) I1.out.1 hb3) 0).trans (show _ = some (Value.int .i64 m) from rfl)
          clear hs3 hr3 hb3 f0 f1 f2 z0 z1 z2
          go_wp2_with (fail)
          (refine HMD.mono ?_; clear HMD xn xm; rintro e w4 ⟨hres, hb4⟩)
          rw [HMO.out] at hres
          clear HMO
          obtain ⟨u1, u2, rfl, hr4, hs4, hb5⟩ := hres
          obtain ⟨A4, c4, rfl⟩ := R_slice hr4
          obtain ⟨A5, c5, rfl⟩ := S_slice hs4
          have HR4 := Aside0.mk hr4
          have HS4 := Aside0.mk hs4
          have HB5 := Aside0.mk hb5
          have D6 := Aside0.mk (blk_below K6.out hb4)
          have HB4 := Aside0.mk (below_then HB3.out HB3.out.size hb4)
          clear hr4 hs4 hb5 hb4
          have z0 : w4.cell? ⟨w.heap.size, 0, none⟩ = some (.int .i64 0) := (blk_cell D6.out 0).trans rfl
          have z1 : w4.cell? ⟨w.heap.size, 1, none⟩ = some (.slice none 0 0) := (blk_cell D6.out 1).trans rfl
          have z2 : w4.cell? ⟨w.heap.size, 2, none⟩ = some (.slice none 0 0) := (blk_cell D6.out 2).trans rfl
          have f0 := blk_frozen D6.out 0
          have f1 := blk_frozen D6.out 1
          have f2 := blk_frozen D6.out 2
          go_wp2_with (fail)
          refine bodyPost_ret (results_ct rfl _ _ w.heap.size tabT #[.int .i64 V.1, .slice A4 V.2.1.length c4, .slice A5 V.2.2.1.length c5] (0, 0) _ rfl (put3_blk (W := w4) D6.out) Try.underlying27 rfl (by kernel_rfl)) rfl ?_
          exact ⟨⟨_, _, rfl, put3_R D6.out HR4.out, put3_S D6.out HS4.out, put3_below HB5.out HB.out.size⟩, put3_below HB4.out (Nat.le_refl _)⟩
        case pos =>
          have hV : joinV n sz rs m zs us = (0, [], [], 2) := (if_pos hc).trans (if_pos hemp)
          rw [hV]
          have HCR := fun q => spec_l06Cross.calls k n A1 c1 sz A2 c2 rs m B1 d1 zs B2 d2 us 0 _ _ (W2.drewN q) (Kd.C_drewN I0.out.2.1 q) I0.out.2.2.1 (Kd.C_drewN I0.out.2.2.2.1 q) I0.out.2.2.2.2 (Kd.C_drewN I1.out.2.1 q) I1.out.2.2.1 (Kd.C_drewN I1.out.2.2.2.1 q) I1.out.2.2.2.2 g0 g1 I0.out.1 I1.out.1 HN.out hk
          have hR0 : ((((allP sel zs rs us).take 701).length : Int) == 0) = true := by rw [hemp]; rfl
          generalize (allP sel zs rs us).take 701 = R at *
          generalize mulL sz zs = Z at *
          clear hV hc hk hemp t1 t2 u2 ht hs hl
          go_enter Try.func79, Try.ntmps79
          go_wp2_with (fail)
          (refine HOK0.mono ?_; clear HOK0; rintro e w' ⟨rfl, q, rfl⟩; rw [← HW.out])
          have HOK2 := HOK1 q
          clear HOK1
          go_wp2_with (fail)
          (refine HOK2.mono ?_; clear HOK2; rintro e w' ⟨rfl, q2, rfl⟩)
          have x1 := (blk_cell I0.out.1 1).trans (show _ = some (Value.slice A1 sz.length c1) from rfl)
          have y1 := (blk_cell I1.out.1 1).trans (show _ = some (Value.slice B1 zs.length d1) from rfl)
          have x0 := (blk_cell I0.out.1 0).trans (show _ = some (Value.int .i64 n) from rfl)
          have y0 := (blk_cell I1.out.1 0).trans (show _ = some (Value.int .i64 m) from rfl)
          go_wp2_with (fail)
          go_quiet (fail)
          rw [World.drewN_drewN]
          have HCR2 := HCR (q + q2 + nq)
          clear HCR x0 x1 y0 y1
          go_wp2_with (fail)
          (refine HCR2.mono ?_; clear HCR2; rintro e w3 ⟨v0, v1, rfl, hs3, hr3, hb3⟩)
          obtain ⟨A9, c9, rfl⟩ := S_slice hs3
          obtain ⟨A8, c8, rfl⟩ := R_slice hr3
          have HB3 := Aside0.mk (below_then (pw_below_drewN HBW.out (q + q2 + nq)) (by have h_ := HBW.out.size; simpa using h_) hb3)
          have K6 := Aside0.mk (blk_below (w := W2.drewN (q + q2 + nq)) B6.out hb3)
          clear hs3 hr3 hb3 f0 f1 f2 z0 z1 z2
          have z0 : w3.cell? ⟨w.heap.size, 0, none⟩ = some (.int .i64 0) := (blk_cell K6.out 0).trans rfl
          have z1 : w3.cell? ⟨w.heap.size, 1, none⟩ = some (.slice none 0 0) := (blk_cell K6.out 1).trans rfl
          have z2 : w3.cell? ⟨w.heap.size, 2, none⟩ = some (.slice none 0 0) := (blk_cell K6.out 2).trans rfl
          have f0 := blk_frozen K6.out 0
          have f1 := blk_frozen K6.out 1
          have f2 := blk_frozen K6.out 2
          go_wp2_with (fail)
          refine bodyPost_ret (results_ct rfl _ _ w.heap.size tabT #[.int .i64 0, .slice none 0 0, .slice none 0 0] (0, 0) _ rfl (put3_blk (W := w3) K6.out) Try.underlying27 rfl (by kernel_rfl)) rfl ?_
          exact ⟨⟨_, _, rfl, R_nil _ _ _ _ _, S_nil _ _ _ _ _, put3_below (below_then HB.out HB.out.size HB3.out) HB.out.size⟩, put3_below HB3.out (Nat.le_refl _)⟩
      · have hc : twoCode true n sz rs m zs us = 2 := by unfold twoCode; rw [if_pos ⟨ht, hs⟩, if_neg (fun h => hl ⟨h.1, h.2 rfl⟩)]
        have hV : joinV n sz rs m zs us = (0, [], [], 2) := by unfold joinV; rw [hc]; rfl
        rw [hV]
        clear hV hc ht hs
        by_cases hl1 : sz.length = zs.length
        · have hne1 : ((sz.length : Int) != (zs.length : Int)) = false := by rw [hl1]; simp
          have hne2 : (n != m) = true := by simpa using fun h => hl ⟨hl1, h⟩
          clear hl hl1
          go_enter Try.func79, Try.ntmps79
          go_wp2_with (fail)
          (refine HOK0.mono ?_; clear HOK0; rintro e w' ⟨rfl, q, rfl⟩; rw [← HW.out])
          have HOK2 := HOK1 q
          clear HOK1
          go_wp2_with (fail)
          (refine HOK2.mono ?_; clear HOK2; rintro e w' ⟨rfl, q2, rfl⟩)
          have x1 := (blk_cell I0.out.1 1).trans (show _ = some (Value.slice A1 sz.length c1) from rfl)
          have y1 := (blk_cell I1.out.1 1).trans (show _ = some (Value.slice B1 zs.length d1) from rfl)
          have x0 := (blk_cell I0.out.1 0).trans (show _ = some (Value.int .i64 n) from rfl)
          have y0 := (blk_cell I1.out.1 0).trans (show _ = some (Value.int .i64 m) from rfl)
          go_wp2_with (fail)
          go_quiet (fail)
          go_wp2_with (fail)
          refine bodyPost_ret (results_ct rfl _ _ w.heap.size tabT #[.int .i64 0, .slice none 0 0, .slice none 0 0] (0, 0) _ rfl (put3_blk (W := W2.drewN (q + q2 + nq)) B6.out) Try.underlying27 rfl (by kernel_rfl)) rfl ?_
          exact ⟨⟨_, _, rfl, R_nil _ _ _ _ _, S_nil _ _ _ _ _, put3_below (pw_below_drewN (below_then HB.out HB.out.size HBW.out) _) HB.out.size⟩, put3_below (pw_below_drewN HBW.out _) (Nat.le_refl _)⟩
        · have hne1 : ((sz.length : Int) != (zs.length : Int)) = true := by simp; omega
          clear hl hl1
          go_enter Try.func79, Try.ntmps79
          go_wp2_with (fail)
          (refine HOK0.mono ?_; clear HOK0; rintro e w' ⟨rfl, q, rfl⟩; rw [← HW.out])
          have HOK2 := HOK1 q
          clear HOK1
          go_wp2_with (fail)
          (refine HOK2.mono ?_; clear HOK2; rintro e w' ⟨rfl, q2, rfl⟩)
          have x1 := (blk_cell I0.out.1 1).trans (show _ = some (Value.slice A1 sz.length c1) from rfl)
          have y1 := (blk_cell I1.out.1 1).trans (show _ = some (Value.slice B1 zs.length d1) from rfl)
          have x0 := (blk_cell I0.out.1 0).trans (show _ = some (Value.int .i64 n) from rfl)
          have y0 := (blk_cell I1.out.1 0).trans (show _ = some (Value.int .i64 m) from rfl)
          go_wp2_with (fail)
          go_quiet (fail)
          go_wp2_with (fail)
          refine bodyPost_ret (results_ct rfl _ _ w.heap.size tabT #[.int .i64 0, .slice none 0 0, .slice none 0 0] (0, 0) _ rfl (put3_blk (W := W2.drewN (q + q2 + nq)) B6.out) Try.underlying27 rfl (by kernel_rfl)) rfl ?_
          exact ⟨⟨_, _, rfl, R_nil _ _ _ _ _, S_nil _ _ _ _ _, put3_below (pw_below_drewN (below_then HB.out HB.out.size HBW.out) _) HB.out.size⟩, put3_below (pw_below_drewN HBW.out _) (Nat.le_refl _)⟩
    · rw [decide_eq_false hs] at HOK1
      have hc : twoCode true n sz rs m zs us = 1 := if_neg (fun h => hs h.2)
      have hV : joinV n sz rs m zs us = (0, [], [], 1) := by unfold joinV; rw [hc]; rfl
      rw [hV]
      clear hV hc ht hs
      go_enter Try.func79, Try.ntmps79
      go_wp2_with (fail)
      (refine HOK0.mono ?_; clear HOK0; rintro e w' ⟨rfl, q, rfl⟩; rw [← HW.out])
      have HOK2 := HOK1 q
      clear HOK1
      go_wp2_with (fail)
      (refine HOK2.mono ?_; clear HOK2; rintro e w' ⟨rfl, q2, rfl⟩)
      go_wp2_with (fail)
      refine bodyPost_ret (results_ct rfl _ _ w.heap.size tabT #[.int .i64 0, .slice none 0 0, .slice none 0 0] (0, 0) _ rfl (put3_blk (W := W2.drewN (q + q2)) B6.out) Try.underlying27 rfl (by kernel_rfl)) rfl ?_
      exact ⟨⟨_, _, rfl, R_nil _ _ _ _ _, S_nil _ _ _ _ _, put3_below (pw_below_drewN (below_then HB.out HB.out.size HBW.out) _) HB.out.size⟩, put3_below (pw_below_drewN HBW.out _) (Nat.le_refl _)⟩
  · rw [decide_eq_false ht] at HOK0
    have hc : twoCode true n sz rs m zs us = 1 := if_neg (fun h => ht h.1)
    have hV : joinV n sz rs m zs us = (0, [], [], 1) := by unfold joinV; rw [hc]; rfl
    rw [hV]
    clear hV hc ht HOK1
    go_enter Try.func79, Try.ntmps79
    go_wp2_with (fail)
    (refine HOK0.mono ?_; clear HOK0; rintro e w' ⟨rfl, q, rfl⟩; rw [← HW.out])
    go_wp2_with (fail)
    refine bodyPost_ret (results_ct rfl _ _ w.heap.size tabT #[.int .i64 0, .slice none 0 0, .slice none 0 0] (0, 0) _ rfl (put3_blk (W := W2.drewN q) B6.out) Try.underlying27 rfl (by kernel_rfl)) rfl ?_
    exact ⟨⟨_, _, rfl, R_nil _ _ _ _ _, S_nil _ _ _ _ _, put3_below (pw_below_drewN (below_then HB.out HB.out.size HBW.out) _) HB.out.size⟩, put3_below (pw_below_drewN HBW.out _) (Nat.le_refl _)⟩
/-- What is told is small. -/
theorem join_small (n : Int) (sz : List Int) (rs : List Row) (m : Int) (zs : List Int) (us : List Row) : 1 + ((joinV n sz rs m zs us).2.1.length : Int) + (totT (joinV n sz rs m zs us).2.2.1 : Int) < 9223372036854775807 := by
  unfold joinV
  by_cases hz : twoCode true n sz rs m zs us = 0
  · rw [if_pos hz]
    by_cases hemp : allP sel zs rs us = []
    · rw [if_pos hemp]
      simp [totT]
    rw [if_neg hemp]
    clear hemp
    generalize allP sel zs rs us = ms
    generalize mulL sz zs = z
    unfold outV
    by_cases hs : ShapeOk n z ms
    · rw [if_pos hs]
      have := shape_tot hs
      show 1 + (z.length : Int) + (totT (ms.mergeSort leT) : Int) < _
      omega
    · rw [if_neg hs]
      simp [totT]
  · rw [if_neg hz]
    simp [totT]

set_option maxHeartbeats 4000000 in
set_option maxRecDepth 100000 in
theorem specJoin_calls (n : Int) (A1 : Option Addr) (c1 : Nat) (sz : List Int) (A2 : Option Addr) (c2 : Nat) (rs : List Row) (m : Int) (B1 : Option Addr) (d1 : Nat) (zs : List Int) (B2 : Option Addr) (d2 : Nat) (us : List Row) (w : World) (h1 : Kd.C (Kd.int .i64) w A1 sz.length sz) (hc1 : sz.length ≤ c1) (h2 : Kd.C dW w A2 rs.length rs) (hc2 : rs.length ≤ c2) (k1 : Kd.C (Kd.int .i64) w B1 zs.length zs) (hd1 : zs.length ≤ d1) (k2 : Kd.C dW w B2 us.length us) (hd2 : us.length ≤ d2) :
    Calls Try.prog 37 #[.agg #[.int .i64 n, .slice A1 sz.length c1, .slice A2 rs.length c2], .agg #[.int .i64 m, .slice B1 zs.length d1, .slice B2 us.length d2]] w (JoinRes w n sz rs m zs us) := by
  have hu := Try.underlying27
  obtain ⟨W2, hW2⟩ : ∃ W2, W2 = ((w.alloc (.cells #[.int .i64 n, .slice A1 sz.length c1, .slice A2 rs.length c2] tabT)).alloc (.cells #[.int .i64 m, .slice B1 zs.length d1, .slice B2 us.length d2] tabT)).alloc (.cells #[.int .i64 0, .slice none 0 0, .slice none 0 0] tabT) := ⟨_, rfl⟩
  have hB2 : Below w.heap.size w W2 := by rw [hW2]; exact below_alloc (below_alloc (below_alloc (Below.refl _ _) _) _) _
  have b0 : W2.heap[w.heap.size]? = some (.cells #[.int .i64 n, .slice A1 sz.length c1, .slice A2 rs.length c2] tabT (0, 0)) := by rw [hW2]; exact blk_alloc (blk_alloc (blk_new w _) _) _
  have b1 : W2.heap[w.heap.size + 1]? = some (.cells #[.int .i64 m, .slice B1 zs.length d1, .slice B2 us.length d2] tabT (0, 0)) := by
    rw [hW2]
    refine blk_alloc ?_ _
    simpa using blk_new (w.alloc (.cells #[.int .i64 n, .slice A1 sz.length c1, .slice A2 rs.length c2] tabT)) (.cells #[.int .i64 m, .slice B1 zs.length d1, .slice B2 us.length d2] tabT)
  have b4 : W2.heap[w.heap.size + 1 + 1]? = some (.cells #[.int .i64 0, .slice none 0 0, .slice none 0 0] tabT (0, 0)) := by
    rw [hW2]
    simpa using blk_new ((w.alloc (.cells #[.int .i64 n, .slice A1 sz.length c1, .slice A2 rs.length c2] tabT)).alloc (.cells #[.int .i64 m, .slice B1 zs.length d1, .slice B2 us.length d2] tabT)) (.cells #[.int .i64 0, .slice none 0 0, .slice none 0 0] tabT)
  have HC := combineS_calls w.heap.size (w.heap.size + 1) (by omega) n A1 c1 sz A2 c2 rs m B1 d1 zs B2 d2 us w W2 hB2 ⟨b0, Kd.C_below h1 hB2, hc1, Kd.C_below h2 hB2, hc2⟩ ⟨b1, Kd.C_below k1 hB2, hd1, Kd.C_below k2 hB2, hd2⟩
  unfold JoinRes at *
  generalize joinV n sz rs m zs us = V at *
  have B4 := Aside0.mk b4
  have HB2 := Aside0.mk hB2
  have HW := Aside0.mk hW2
  rw [hW2] at HC
  clear b0 b1 b4 hB2 hW2 h1 h2 k1 k2 hc1 hc2 hd1 hd2
  go_enter Try.func37, Try.ntmps37
  go_wp2_with (fail)
  (refine HC.mono ?_; clear HC; rintro e w4 ⟨⟨u1, u2, rfl, hr4, hs4, hb5⟩, hb4⟩; rw [← HW.out] at hb4)
  obtain ⟨A4, c4, rfl⟩ := R_slice hr4
  obtain ⟨A5, c5, rfl⟩ := S_slice hs4
  have HR4 := Aside0.mk hr4
  have HS4 := Aside0.mk hs4
  have HB5 := Aside0.mk hb5
  have D6 := Aside0.mk (blk_below B4.out hb4)
  clear hr4 hs4 hb5 hb4
  have z0 : w4.cell? ⟨w.heap.size + 1 + 1, 0, none⟩ = some (.int .i64 0) := (blk_cell D6.out 0).trans rfl
  have z1 : w4.cell? ⟨w.heap.size + 1 + 1, 1, none⟩ = some (.slice none 0 0) := (blk_cell D6.out 1).trans rfl
  have z2 : w4.cell? ⟨w.heap.size + 1 + 1, 2, none⟩ = some (.slice none 0 0) := (blk_cell D6.out 2).trans rfl
  have f0 := blk_frozen D6.out 0
  have f1 := blk_frozen D6.out 1
  have f2 := blk_frozen D6.out 2
  go_wp2_with (fail)
  refine bodyPost_ret (results_ct rfl _ _ (w.heap.size + 1 + 1) tabT #[.int .i64 V.1, .slice A4 V.2.1.length c4, .slice A5 V.2.2.1.length c5] (0, 0) _ rfl (put3_blk (W := w4) D6.out) Try.underlying27 rfl (by kernel_rfl)) rfl ?_
  exact ⟨_, _, rfl, put3_R D6.out HR4.out, put3_S D6.out HS4.out, put3_below HB5.out (by omega)⟩
end Go.Proofs.Ytdahdeohmbadhaa.TJoin
