/- Contract of the program's JoinTables. -/
import Derived.Test.YtdahdeohmbadhaaTJoinH
import Derived.Test.YtdahdeohmbadhaaGx7
namespace Go.Proofs.Ytdahdeohmbadhaa.TJoin
open Go.RowKit Go.Lib Go.Proofs Go.Proofs.YtdahdeohmbadhaaW.PrintWords Go.Proofs.YtdahdeohmbadhaaW.PrintWords.Kd Go.Proofs.YtdahdeohmbadhaaW.PrintLast Go.Proofs.YtdahdeohmbadhaaW.PrintMore Go.Proofs.Ytdahdeohmbadhaa.G Go.Proofs.Ytdahdeohmbadhaa.Fam Go.Proofs.Ytdahdeohmbadhaa.Loops Go.Proofs.Ytdahdeohmbadhaa.MarkT Go.Proofs.Ytdahdeohmbadhaa.TSort Go.Proofs.Ytdahdeohmbadhaa.TCmp Go.Proofs.Ytdahdeohmbadhaa.TLess Go.Proofs.Ytdahdeohmbadhaa.TShape Go.Proofs.Ytdahdeohmbadhaa.TOk Go.Proofs.Ytdahdeohmbadhaa.TValid Go.Proofs.Ytdahdeohmbadhaa.TMerge Go.Proofs.Ytdahdeohmbadhaa.ExTC Go.Proofs.Ytdahdeohmbadhaa.TMade Go.Proofs.Ytdahdeohmbadhaa.TGather
set_option linter.unusedVariables false
set_option linter.unusedSimpArgs false

theorem two_is (alike : Bool) (n : Int) (sz : List Int) (rs : List Row) (m : Int) (zs : List Int) (us : List Row) (hr : ∀ r ∈ rs, r.f1.length ≤ 9223372036854775807) (hu : ∀ r ∈ us, r.f1.length ≤ 9223372036854775807) : Ev (fun k => impl_twoTables.f k n sz rs m zs us alike) (twoCode alike n sz rs m zs us) := by
  unfold impl_twoTables.f twoCode
  obtain ⟨r0, hE0, h0⟩ := valid_is n sz rs hr
  obtain ⟨r1, hE1, h1⟩ := valid_is m zs us hu
  refine Ev.bind hE0 ?_
  by_cases ht : TabOk n sz rs
  · simp only [if_pos (h0.2 ht)]
    refine Ev.bind hE1 ?_
    by_cases hs : TabOk m zs us
    · rw [h1.2 hs, if_pos ⟨ht, hs⟩]
      refine Ev.step (f := fun _ => some (if sz.length = zs.length ∧ (alike = true → n = m) then (0 : Int) else 2)) (fun k => ?_) (Ev.now _)
      simp only [impl_twoTables.j0]
      by_cases hl : sz.length = zs.length
      · cases alike with
        | true =>
          by_cases hn : n = m
          · simp [hl, hn]
          · simp [hl, hn]
        | false => simp [hl]
      · have hl2 : ¬ (sz.length : Int) = (zs.length : Int) := by omega
        simp [hl, hl2]
    · have hf : r1 = false := by cases r1 with
        | false => rfl
        | true => exact absurd (h1.1 rfl) hs
      rw [hf, if_neg (fun h => hs h.2)]
      exact Ev.step (f := fun _ => some 1) (fun k => by simp [impl_twoTables.j0]) (Ev.now _)
  · simp only [if_neg (fun h => ht (h0.1 h))]
    rw [if_neg (fun h => ht h.1)]
    exact Ev.step (f := fun _ => some 1) (fun k => by simp [impl_twoTables.j0]) (Ev.now _)
set_option maxHeartbeats 4000000 in
set_option maxRecDepth 100000 in
theorem secret_calls (W : World) (a b : Int) :
    Calls Try.prog 87 (#[] ++ (#[.int .i64 a, .int .i64 b] ++ #[])) W fun e w' => e = .returned (.tuple #[.int .i64 (sel a b), .bool (decide (a = b))]) ∧ ∃ nd, w' = W.drewN nd := by
  show Calls Try.prog 87 #[.int .i64 a, .int .i64 b] W _
  unfold sel
  generalize hd : decide (a = b) = dd
  go_enter Try.func87, Try.ntmps87
  go_wp2_with (fail)
  refine bodyPost_ret (v := .tuple #[.int .i64 a, .bool dd]) (by rw [← hd]; simp [results, Try.results87, go_sem]; rfl) rfl ⟨rfl, 0, rfl⟩
set_option maxHeartbeats 8000000 in
set_option maxRecDepth 100000 in
theorem implJoin_calls (n : Int) (A1 : Option Addr) (c1 : Nat) (sz : List Int) (A2 : Option Addr) (c2 : Nat) (rs : List Row) (m : Int) (B1 : Option Addr) (d1 : Nat) (zs : List Int) (B2 : Option Addr) (d2 : Nat) (us : List Row) (w : World) (h1 : Kd.C (Kd.int .i64) w A1 sz.length sz) (hc1 : sz.length ≤ c1) (h2 : Kd.C dW w A2 rs.length rs) (hc2 : rs.length ≤ c2) (k1 : Kd.C (Kd.int .i64) w B1 zs.length zs) (hd1 : zs.length ≤ d1) (k2 : Kd.C dW w B2 us.length us) (hd2 : us.length ≤ d2) :
    Calls Try.prog 38 #[.agg #[.int .i64 n, .slice A1 sz.length c1, .slice A2 rs.length c2], .agg #[.int .i64 m, .slice B1 zs.length d1, .slice B2 us.length d2]] w (JoinRes w n sz rs m zs us) := by
  have hu := Try.underlying27
  obtain ⟨kk, hkk⟩ := (two_is true n sz rs m zs us (lens_R h2).2 (lens_R k2).2).rounds
  obtain ⟨W2, hW2⟩ : ∃ W2, W2 = ((w.alloc (.cells #[.int .i64 n, .slice A1 sz.length c1, .slice A2 rs.length c2] tabT)).alloc (.cells #[.int .i64 m, .slice B1 zs.length d1, .slice B2 us.length d2] tabT)).alloc (.cells #[.int .i64 0, .slice none 0 0, .slice none 0 0] tabT) := ⟨_, rfl⟩
  have hB2 : Below w.heap.size w W2 := by rw [hW2]; exact below_alloc (below_alloc (below_alloc (Below.refl _ _) _) _) _
  have b0 : W2.heap[w.heap.size]? = some (.cells #[.int .i64 n, .slice A1 sz.length c1, .slice A2 rs.length c2] tabT (0, 0)) := by rw [hW2]; exact blk_alloc (blk_alloc (blk_new w _) _) _
  have b1 : W2.heap[w.heap.size + 1]? = some (.cells #[.int .i64 m, .slice B1 zs.length d1, .slice B2 us.length d2] tabT (0, 0)) := by
    rw [hW2]
    refine blk_alloc ?_ _
    simpa using blk_new (w.alloc (.cells #[.int .i64 n, .slice A1 sz.length c1, .slice A2 rs.length c2] tabT)) (.cells #[.int .i64 m, .slice B1 zs.length d1, .slice B2 us.length d2] tabT)
  have b4 : W2.heap[w.heap.size + 1 + 1]? = some (.cells #[.int .i64 0, .slice none 0 0, .slice none 0 0] tabT (0, 0)) := by
    rw [hW2]
    simpa using blk_new ((w.alloc (.cells #[.int .i64 n, .slice A1 sz.length c1, .slice A2 rs.length c2] tabT)).alloc (.cells #[.int .i64 m, .slice B1 zs.length d1, .slice B2 us.length d2] tabT)) (.cells #[.int .i64 0, .slice none 0 0, .slice none 0 0] tabT)
  have HTW := impl_twoTables.calls kk n A1 c1 sz A2 c2 rs m B1 d1 zs B2 d2 us true _ W2 (Kd.C_below h1 hB2) hc1 (Kd.C_below h2 hB2) hc2 (Kd.C_below k1 hB2) hd1 (Kd.C_below k2 hB2) hd2 hkk
  have HH := Aside0.mk (fun W (hb : Below w.heap.size w W) => And.intro (And.intro (Kd.C_below h1 hb) (Kd.C_below h2 hb)) (And.intro (Kd.C_below k1 hb) (Kd.C_below k2 hb)))
  have B0 := Aside0.mk b0
  have B1' := Aside0.mk b1
  have B4 := Aside0.mk b4
  have HB2 := Aside0.mk hB2
  have HW := Aside0.mk hW2
  rw [hW2] at HTW
  have x0 := (blk_cell b0 0).trans (show _ = some (Value.int .i64 n) from rfl)
  have x1 := (blk_cell b0 1).trans (show _ = some (Value.slice A1 sz.length c1) from rfl)
  have x2 := (blk_cell b0 2).trans (show _ = some (Value.slice A2 rs.length c2) from rfl)
  have y0 := (blk_cell b1 0).trans (show _ = some (Value.int .i64 m) from rfl)
  have y1 := (blk_cell b1 1).trans (show _ = some (Value.slice B1 zs.length d1) from rfl)
  have y2 := (blk_cell b1 2).trans (show _ = some (Value.slice B2 us.length d2) from rfl)
  rw [hW2] at x0 x1 x2 y0 y1 y2
  unfold JoinRes
  by_cases hz : twoCode true n sz rs m zs us = 0
  · have hcond : (TabOk n sz rs ∧ TabOk m zs us) ∧ sz.length = zs.length := by
      unfold twoCode at hz
      split at hz
      · rename_i h
        split at hz
        · rename_i h2
          exact ⟨h, h2.1⟩
        · exact absurd hz (by decide)
      · exact absurd hz (by decide)
    by_cases hemp : allP sel zs rs us = []
    · have hany : (rs.any fun a => us.any (alike a)) = false := by
        cases hx : (rs.any fun a => us.any (alike a)) with
        | false => rfl
        | true => exact absurd hemp ((any_all zs rs us).1 hx)
      rw [hz] at HTW
      have hV : joinV n sz rs m zs us = (0, [], [], 2) := (if_pos hz).trans (if_pos hemp)
      rw [hV]
      have HCF := fun W (hb : Below w.heap.size w W) (hm : W.cell? ⟨w.heap.size + 1, 2, none⟩ = some (.slice B2 us.length d2)) => contains_R 85 #[.pointer (some ⟨w.heap.size + 1, 0, none⟩)] (enters_of Try.func85 (by kernel_rfl) rfl) (fun a => us.any (alike a)) A2 c2 rs W (HH.out W hb).1.2 (fun W' x A c hb' => has_calls W' (w.heap.size + 1) B2 d2 us x A c (pw_cell_below hb' hm) (HH.out W' (below_then hb hb.size hb')).2.2)
      simp only [hany] at HCF
      clear hV hz hkk hemp hany hcond hB2 b0 b1 b4 hW2 h1 h2 k1 k2 hc1 hc2 hd1 hd2
      go_enter Try.func38, Try.ntmps38
      go_wp2_with (fail)
      (refine HTW.mono ?_; clear HTW x0 x1 x2 y0 y1 y2; rintro e w3 ⟨rfl, hb3⟩; rw [← HW.out] at hb3)
      have HB3 := Aside0.mk (below_then HB2.out HB2.out.size hb3)
      have C0 := Aside0.mk (blk_below B0.out hb3)
      have C1 := Aside0.mk (blk_below B1'.out hb3)
      have C4 := Aside0.mk (blk_below B4.out hb3)
      clear hb3
      have x0 := (blk_cell C0.out 0).trans (show _ = some (Value.int .i64 n) from rfl)
      have x1 := (blk_cell C0.out 1).trans (show _ = some (Value.slice A1 sz.length c1) from rfl)
      have x2 := (blk_cell C0.out 2).trans (show _ = some (Value.slice A2 rs.length c2) from rfl)
      have y0 := (blk_cell C1.out 0).trans (show _ = some (Value.int .i64 m) from rfl)
      have y1 := (blk_cell C1.out 1).trans (show _ = some (Value.slice B1 zs.length d1) from rfl)
      have y2 := (blk_cell C1.out 2).trans (show _ = some (Value.slice B2 us.length d2) from rfl)
      have HCF3 := HCF w3 HB3.out y2
      clear HCF
      go_wp2_with (fail)
      (refine HCF3.mono ?_; clear HCF3 x0 x1 x2 y0 y1 y2; rintro e w5 ⟨rfl, hb5⟩)
      have HB5 := Aside0.mk (below_then HB3.out HB3.out.size hb5)
      have D6 := Aside0.mk (blk_below C4.out hb5)
      clear hb5
      have z0 : w5.cell? ⟨w.heap.size + 1 + 1, 0, none⟩ = some (.int .i64 0) := (blk_cell D6.out 0).trans rfl
      have z1 : w5.cell? ⟨w.heap.size + 1 + 1, 1, none⟩ = some (.slice none 0 0) := (blk_cell D6.out 1).trans rfl
      have z2 : w5.cell? ⟨w.heap.size + 1 + 1, 2, none⟩ = some (.slice none 0 0) := (blk_cell D6.out 2).trans rfl
      have f0 := blk_frozen D6.out 0
      have f1 := blk_frozen D6.out 1
      have f2 := blk_frozen D6.out 2
      go_wp2_with (fail)
      refine bodyPost_ret (results_ct rfl _ _ (w.heap.size + 1 + 1) tabT #[.int .i64 0, .slice none 0 0, .slice none 0 0] (0, 0) _ rfl (put3_blk (W := w5) D6.out) Try.underlying27 rfl (by kernel_rfl)) rfl ?_
      exact ⟨_, _, rfl, R_nil _ _ _ _ _, S_nil _ _ _ _ _, put3_below HB5.out (by omega)⟩
    · have hany : (rs.any fun a => us.any (alike a)) = true := (any_all zs rs us).2 hemp
      have hV : joinV n sz rs m zs us = outV n (mulL sz zs) (allP sel zs rs us) := (if_pos hz).trans (if_neg hemp)
      obtain ⟨⟨ht, hs⟩, hl⟩ := hcond
      have t1 := ht.1.2.1
      have t2 := ht.1.2.2.1
      have u2 := hs.1.2.2.1
      obtain ⟨kc, hkc⟩ := (combine_is (sec := sel) (arg := n) (fun _ _ => rfl) n m (mulL sz zs) zs rs us sz.length t1.2 hl.symm (fun r hr => (ht.1.2.2.2.2 r hr).2.1) (fun r hr => by rw [hl]; exact (hs.1.2.2.2.2 r hr).2.1) t2.2 u2.2 (by rw [mul_len]; omega) n sz rfl rfl).rounds
      rw [hz] at HTW
      rw [← hV] at hkc
      obtain ⟨r1, rz, r2, r3, hVV⟩ : ∃ a b c d, joinV n sz rs m zs us = (a, b, c, d) := ⟨_, _, _, _, rfl⟩
      rw [hVV] at hkc
      rw [hVV]
      have eK : ∀ args w, (callFunc 87 args).run Try.prog w = .ok (.enter 87 args) w := enters_of Try.func87 (by kernel_rfl) rfl
      have HCB := fun W (hb : Below w.heap.size w W) => impl_combine.calls kc n A1 c1 sz A2 c2 rs m B1 d1 zs B2 d2 us n n r1 rz r2 r3 W (HH.out W hb).1.1 hc1 (HH.out W hb).1.2 hc2 (HH.out W hb).2.1 hd1 (HH.out W hb).2.2 hd2 87 #[] #[] eK (fun W' a b r ok hb' hs' => by
        have he : some (sel a b, decide (a = b)) = some (r, ok) := hs'
        injection he with he
        injection he with he1 he2
        subst he1
        subst he2
        exact secret_calls W' a b) hkc
      have HCF := fun W (hb : Below w.heap.size w W) (hm : W.cell? ⟨w.heap.size + 1, 2, none⟩ = some (.slice B2 us.length d2)) => contains_R 85 #[.pointer (some ⟨w.heap.size + 1, 0, none⟩)] (enters_of Try.func85 (by kernel_rfl) rfl) (fun a => us.any (alike a)) A2 c2 rs W (HH.out W hb).1.2 (fun W' x A c hb' => has_calls W' (w.heap.size + 1) B2 d2 us x A c (pw_cell_below hb' hm) (HH.out W' (below_then hb hb.size hb')).2.2)
      simp only [hany] at HCF
      clear hVV hV hz hkc hkk ht hs hl hemp hany t1 t2 u2 hB2 b0 b1 b4 hW2 eK h1 h2 k1 k2 hc1 hc2 hd1 hd2
      go_enter Try.func38, Try.ntmps38
      go_wp2_with (fail)
      (refine HTW.mono ?_; clear HTW x0 x1 x2 y0 y1 y2; rintro e w3 ⟨rfl, hb3⟩; rw [← HW.out] at hb3)
      have HB3 := Aside0.mk (below_then HB2.out HB2.out.size hb3)
      have C0 := Aside0.mk (blk_below B0.out hb3)
      have C1 := Aside0.mk (blk_below B1'.out hb3)
      have C4 := Aside0.mk (blk_below B4.out hb3)
      clear hb3
      have x0 := (blk_cell C0.out 0).trans (show _ = some (Value.int .i64 n) from rfl)
      have x1 := (blk_cell C0.out 1).trans (show _ = some (Value.slice A1 sz.length c1) from rfl)
      have x2 := (blk_cell C0.out 2).trans (show _ = some (Value.slice A2 rs.length c2) from rfl)
      have y0 := (blk_cell C1.out 0).trans (show _ = some (Value.int .i64 m) from rfl)
      have y1 := (blk_cell C1.out 1).trans (show _ = some (Value.slice B1 zs.length d1) from rfl)
      have y2 := (blk_cell C1.out 2).trans (show _ = some (Value.slice B2 us.length d2) from rfl)
      have HCF3 := HCF w3 HB3.out y2
      clear HCF
      go_wp2_with (fail)
      (refine HCF3.mono ?_; clear HCF3 x0 x1 x2 y0 y1 y2; rintro e w5 ⟨rfl, hb5⟩)
      have HB5 := Aside0.mk (below_then HB3.out HB3.out.size hb5)
      have E0 := Aside0.mk (blk_below C0.out hb5)
      have E1 := Aside0.mk (blk_below C1.out hb5)
      have E4 := Aside0.mk (blk_below C4.out hb5)
      clear hb5
      have x0 := (blk_cell E0.out 0).trans (show _ = some (Value.int .i64 n) from rfl)
      have x1 := (blk_cell E0.out 1).trans (show _ = some (Value.slice A1 sz.length c1) from rfl)
      have x2 := (blk_cell E0.out 2).trans (show _ = some (Value.slice A2 rs.length c2) from rfl)
      have y0 := (blk_cell E1.out 0).trans (show _ = some (Value.int .i64 m) from rfl)
      have y1 := (blk_cell E1.out 1).trans (show _ = some (Value.slice B1 zs.length d1) from rfl)
      have y2 := (blk_cell E1.out 2).trans (show _ = some (Value.slice B2 us.length d2) from rfl)
      have HCB5 := HCB w5 HB5.out
      clear HCB
      go_wp2_with (fail)
      (refine HCB5.mono ?_; clear HCB5 x0 x1 x2 y0 y1 y2; rintro e w4 ⟨u1, u2, rfl, hr4, hs4, hb4⟩)
      obtain ⟨A4, c4, rfl⟩ := R_slice hr4
      obtain ⟨A5, c5, rfl⟩ := S_slice hs4
      have HR4 := Aside0.mk (R_lower hr4 HB5.out.size)
      have HS4 := Aside0.mk (S_lower hs4 HB5.out.size)
      have D6 := Aside0.mk (blk_below E4.out hb4)
      have HB4 := Aside0.mk (below_then HB5.out HB5.out.size hb4)
      clear hr4 hs4 hb4
      have z0 : w4.cell? ⟨w.heap.size + 1 + 1, 0, none⟩ = some (.int .i64 0) := (blk_cell D6.out 0).trans rfl
      have z1 : w4.cell? ⟨w.heap.size + 1 + 1, 1, none⟩ = some (.slice none 0 0) := (blk_cell D6.out 1).trans rfl
      have z2 : w4.cell? ⟨w.heap.size + 1 + 1, 2, none⟩ = some (.slice none 0 0) := (blk_cell D6.out 2).trans rfl
      have f0 := blk_frozen D6.out 0
      have f1 := blk_frozen D6.out 1
      have f2 := blk_frozen D6.out 2
      go_wp2_with (fail)
      refine bodyPost_ret (results_ct rfl _ _ (w.heap.size + 1 + 1) tabT #[.int .i64 r1, .slice A4 rz.length c4, .slice A5 r2.length c5] (0, 0) _ rfl (put3_blk (W := w4) D6.out) Try.underlying27 rfl (by kernel_rfl)) rfl ?_
      exact ⟨_, _, rfl, put3_R D6.out HR4.out, put3_S D6.out HS4.out, put3_below HB4.out (by omega)⟩
  · have hV : joinV n sz rs m zs us = (0, [], [], twoCode true n sz rs m zs us) := if_neg hz
    rw [hV]
    have hne : (twoCode true n sz rs m zs us != 0) = true := by simpa using hz
    have heq : (twoCode true n sz rs m zs us == 0) = false := by simpa using hz
    generalize twoCode true n sz rs m zs us = cc at *
    clear hV hz hkk hB2 b0 b1 b4 hW2 h1 h2 k1 k2 hc1 hc2 hd1 hd2
    go_enter Try.func38, Try.ntmps38
    go_wp2_with (fail)
    (refine HTW.mono ?_; clear HTW x0 x1 x2 y0 y1 y2; rintro e w3 ⟨rfl, hb3⟩; rw [← HW.out] at hb3)
    have HB3 := Aside0.mk (below_then HB2.out HB2.out.size hb3)
    have D6 := Aside0.mk (blk_below B4.out hb3)
    clear hb3
    have z0 : w3.cell? ⟨w.heap.size + 1 + 1, 0, none⟩ = some (.int .i64 0) := (blk_cell D6.out 0).trans rfl
    have z1 : w3.cell? ⟨w.heap.size + 1 + 1, 1, none⟩ = some (.slice none 0 0) := (blk_cell D6.out 1).trans rfl
    have z2 : w3.cell? ⟨w.heap.size + 1 + 1, 2, none⟩ = some (.slice none 0 0) := (blk_cell D6.out 2).trans rfl
    have f0 := blk_frozen D6.out 0
    have f1 := blk_frozen D6.out 1
    have f2 := blk_frozen D6.out 2
    go_wp2_with (fail)
    refine bodyPost_ret (results_ct rfl _ _ (w.heap.size + 1 + 1) tabT #[.int .i64 0, .slice none 0 0, .slice none 0 0] (0, 0) _ rfl (put3_blk (W := w3) D6.out) Try.underlying27 rfl (by kernel_rfl)) rfl ?_
    exact ⟨_, _, rfl, R_nil _ _ _ _ _, S_nil _ _ _ _ _, put3_below HB3.out (by omega)⟩
end Go.Proofs.Ytdahdeohmbadhaa.TJoin
