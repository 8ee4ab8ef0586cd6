/- lists: a function is called with all lists of so many numbers below another one, one after the other. -/
import Derived.Test.YtdahdeohmbadhaaTLess
namespace Go.Proofs.Ytdahdeohmbadhaa.TLists
open Go.RowKit Go.Lib Go.Proofs Go.Proofs.YtdahdeohmbadhaaW.PrintWords Go.Proofs.YtdahdeohmbadhaaW.PrintWords.Kd Go.Proofs.YtdahdeohmbadhaaW.PrintLast Go.Proofs.YtdahdeohmbadhaaW.PrintMore Go.Proofs.Ytdahdeohmbadhaa.G Go.Proofs.Ytdahdeohmbadhaa.Fam Go.Proofs.Ytdahdeohmbadhaa.Loops
set_option linter.unusedVariables false
set_option linter.unusedSimpArgs false

/-- The digits of a number in a base, the first one first. -/
def digs (b : Nat) : Nat → Nat → List Int
 | 0, _ => []
 | m + 1, n => digs b m (n / b) ++ [((n % b : Nat) : Int)]
theorem digs_len (b : Nat) : ∀ m n, (digs b m n).length = m
 | 0, _ => rfl
 | m + 1, n => by rw [digs, List.length_append, digs_len b m]; rfl
theorem digs_zero (b : Nat) : ∀ m, digs b m 0 = List.replicate m 0
 | 0 => rfl
 | m + 1 => by rw [digs, Nat.zero_div, Nat.zero_mod, digs_zero b m, List.replicate_succ']; rfl
theorem carry_div {b n : Nat} (hb : 0 < b) (h : n % b = b - 1) : (n + 1) / b = n / b + 1 ∧ (n + 1) % b = 0 := by
 have h1 := Nat.div_add_mod n b
 have e : n + 1 = b * (n / b + 1) := by rw [Nat.mul_add, Nat.mul_one]; omega
 rw [e]
 exact ⟨Nat.mul_div_cancel_left _ hb, Nat.mul_mod_right _ _⟩
theorem step_div {b n : Nat} (hb : 0 < b) (h : n % b ≠ b - 1) : (n + 1) / b = n / b ∧ (n + 1) % b = n % b + 1 := by
 have h1 := Nat.div_add_mod n b
 have h2 := Nat.mod_lt n hb
 have e : n + 1 = (n % b + 1) + b * (n / b) := by omega
 rw [e, Nat.add_mul_div_left _ _ hb, Nat.add_mul_mod_self_left, Nat.div_eq_of_lt (by omega), Nat.mod_eq_of_lt (by omega)]
 exact ⟨by omega, rfl⟩
/-- The search for the place that grows: what is left in front, behind it zeros. -/
def Car (b m n j q : Nat) : Prop := q < b ^ j ∧ j ≤ m ∧ digs b m (n + 1) = digs b j (q + 1) ++ List.replicate (m - j) 0 ∧ (n + 1 = b ^ m ↔ q + 1 = b ^ j)
theorem car_start {b m n : Nat} (h : n < b ^ m) : Car b m n m n := ⟨h, Nat.le_refl _, by simp, Iff.rfl⟩
theorem car_down {b m n j q : Nat} (hb : 0 < b) (h : Car b m n (j + 1) q) (hq : q % b = b - 1) : Car b m n j (q / b) := by
 obtain ⟨h1, h2, h3, h4⟩ := h
 obtain ⟨e1, e2⟩ := carry_div hb hq
 have h5 := Nat.div_add_mod q b
 refine ⟨(Nat.div_lt_iff_lt_mul hb).2 (by rw [← Nat.pow_succ]; exact h1), by omega, ?_, h4.trans ?_⟩
 ·
  rw [h3, digs, e1, e2, show m - j = (m - (j + 1)) + 1 by omega, List.replicate_succ, List.append_assoc]
  rfl
 ·
  have e : q + 1 = b * (q / b + 1) := by rw [Nat.mul_add, Nat.mul_one]; omega
  rw [e, Nat.pow_succ, Nat.mul_comm (b ^ j) b]
  exact ⟨fun h => Nat.eq_of_mul_eq_mul_left hb h, fun h => by rw [h]⟩
theorem car_end {b m n q : Nat} (h : Car b m n 0 q) : n + 1 = b ^ m := by
 obtain ⟨h1, _, _, h4⟩ := h
 exact h4.2 (by simpa using h1)
theorem car_grow {b m n j q : Nat} (hb : 0 < b) (h : Car b m n (j + 1) q) (hq : q % b ≠ b - 1) : n + 1 ≠ b ^ m ∧ digs b m (n + 1) = digs b j (q / b) ++ [((q % b : Nat) : Int) + 1] ++ List.replicate (m - (j + 1)) 0 := by
 obtain ⟨h1, h2, h3, h4⟩ := h
 obtain ⟨e1, e2⟩ := step_div hb hq
 refine ⟨fun h => ?_, ?_⟩
 ·
  have h5 := h4.1 h
  rw [Nat.pow_succ] at h5
  have h6 : (q + 1) % b = 0 := by rw [h5]; exact Nat.mul_mod_left _ _
  rw [e2] at h6
  omega
 ·
  rw [h3, digs, e1, e2]
  rfl
/-- What lies in the list while the place is searched. -/
def midL (b m j q : Nat) : List Int := digs b j q ++ List.replicate (m - j) 0
theorem mid_len {b m j q : Nat} (h : j ≤ m) : (midL b m j q).length = m := by
 unfold midL
 rw [List.length_append, digs_len, List.length_replicate]
 omega
theorem mid_top (b m n : Nat) : midL b m m n = digs b m n := by simp [midL]
theorem mid_at {b m j q : Nat} (h : j + 1 ≤ m) : (midL b m (j + 1) q).getD j 0 = ((q % b : Nat) : Int) := by
 unfold midL
 rw [digs, List.append_assoc]
 simp [List.getD, List.getElem?_append, digs_len]
theorem mid_set {b m j q : Nat} (h : j + 1 ≤ m) (x : Int) : (midL b m (j + 1) q).set j x = digs b j (q / b) ++ [x] ++ List.replicate (m - (j + 1)) 0 := by
 unfold midL
 rw [digs, List.append_assoc, List.append_assoc, List.set_append_right _ _ (by rw [digs_len]; exact Nat.le_refl _), digs_len, Nat.sub_self]
 rfl
theorem mid_zero {b m j q : Nat} (h : j + 1 ≤ m) : (midL b m (j + 1) q).set j 0 = midL b m j (q / b) := by
 rw [mid_set h]
 unfold midL
 rw [show m - j = (m - (j + 1)) + 1 by omega, List.replicate_succ, List.append_assoc]
 rfl
theorem seen_succ (b m n : Nat) : (List.range n).map (digs b m) ++ [digs b m n] = (List.range (n + 1)).map (digs b m) := by rw [List.range_succ, List.map_append]; rfl

set_option maxHeartbeats 8000000 in
set_option maxRecDepth 100000 in
theorem lists_calls (m b : Nat) (hm : 1 ≤ m ∧ m ≤ 1000) (hb : 1 ≤ b ∧ b ≤ 1000) (f : Nat) (KC : Array Value) (ef : ∀ args w, (callFunc f args).run Try.prog w = .ok (.enter f args) w)
  (J : Nat → List (List Int) → World → Prop) (w : World)
  (HW : ∀ (seen : List (List Int)) (l : List Int) (W : World) (g c : Nat), seen.length < b ^ m → l.length = m → w.heap.size ≤ g → J g seen W → Kd.R (Kd.int .i64) 2 W w.heap.size (fun _ => True) (.slice (some ⟨g, 0, none⟩) m c) l → Calls Try.prog f (#[.slice (some ⟨g, 0, none⟩) m c] ++ KC) W fun e W' => e = .returned (.tuple #[]) ∧ J g (seen ++ [l]) W' ∧ Kd.R (Kd.int .i64) 2 W' w.heap.size (fun _ => True) (.slice (some ⟨g, 0, none⟩) m c) l)
  (H0 : ∀ (W : World) (g : Nat), Below w.heap.size w W → w.heap.size ≤ g → J g [] W)
  (HS : ∀ (g : Nat) (seen : List (List Int)) (W : World) (i : Nat) (x : Value), w.heap.size ≤ g → J g seen W → J g seen (W.setCell ⟨g, i, none⟩ x)) :
  Calls Try.prog 105 #[.int .i64 (m : Int), .int .i64 (b : Int), .func (.func f) #[] KC] w fun e w' => e = .returned (.tuple #[]) ∧ ∃ g, w.heap.size ≤ g ∧ J g ((List.range (b ^ m)).map (digs b m)) w' := by
 have HWC := Aside0.mk HW
 have H0C := Aside0.mk H0
 have HSC := Aside0.mk HS
 have HM := Aside0.mk hm
 have HBB := Aside0.mk hb
 clear HW H0 HS hm hb
 have hwb : wrap64 ((b : Int) - 1) = (b : Int) - 1 := by have := HBB.out; exact wrap_id (by omega) (by omega)
 have hwm : wrap64 ((m : Int) - 1) = (m : Int) - 1 := by have := HM.out; exact wrap_id (by omega) (by omega)
 have h0m : decide (0 ≤ (m : Int)) = true := decide_eq_true (by omega)
 go_enter Try.func105, Try.ntmps105
 go_wp2_with (first | ((with_reducible refine gate_dst (N := 9) rfl ?_); refine Kd.R_make (Kd.int .i64) _ 2 rfl (N := 9) rfl 22 _ _ rfl (m : Int) rfl rfl Try.underlying22 (.int .i64 0) 8 info2 rfl (by decide) (by omega) 0 (ok := fun _ => True) (okp := fun _ => True) rfl (fun _ hk => hk) trivial (by omega) (by have := HM.out; omega) (Below.refl _ _) (Nat.le_refl _) ?_; intro v1 w1 ho hbl hg_ hnew_; clear hg_ hnew_; have HO1 := Aside0.mk ho; have HB1 := Aside0.mk hbl; clear ho hbl))
 obtain ⟨g, c, rfl, hgb, hgl, _, _⟩ := Kd.R_form HO1.out (by have := HM.out; rw [List.length_replicate]; omega)
 have hlen : (List.replicate (m : Int).toNat (0 : Int)).length = m := by rw [List.length_replicate]; omega
 rw [hlen] at HO1 ⊢
 have HGB := Aside0.mk hgb
 have HJ1 := Aside0.mk (H0C.out _ g HB1.out hgb)
 have HR1 : Aside0 (Kd.R (Kd.int .i64) 2 w1 w.heap.size (fun _ => True) (.slice (some ⟨g, 0, none⟩) m c) (digs b m 0)) := ⟨by rw [digs_zero]; have := HO1.out; rwa [Int.toNat_natCast] at this⟩
 have hpos : 0 < b ^ m := Nat.pow_pos (by have := HBB.out; omega)
 have HPOS := Aside0.mk hpos
 clear hgb hgl HO1 hlen HB1 h0m hpos H0C
 go_loopg [7] (b ^ m) (fun gg _ wr => ∃ n : Nat, n < b ^ m ∧ b ^ m - n ≤ gg ∧ Aside0 (J g ((List.range n).map (digs b m)) wr) ∧ Aside0 (Kd.R (Kd.int .i64) 2 wr w.heap.size (fun _ => True) (.slice (some ⟨g, 0, none⟩) m c) (digs b m n)))
 case atStart => exact ⟨0, HPOS.out, by omega, HJ1, HR1⟩
 case round =>
  obtain ⟨n, hn, hg, HJ2, HR2⟩ := hrel
  have hcall := HWC.out _ (digs b m n) wr g c (by rw [List.length_map, List.length_range]; exact hn) (digs_len b m n) HGB.out HJ2.out HR2.out
  rw [seen_succ] at hcall
  have HN := Aside0.mk hn
  have HG2 := Aside0.mk hg
  clear hn hg
  go_wp2_with (go_at_fn f; refine hcall.mono ?_; clear hcall; rintro e w3 ⟨rfl, hj3, hr3⟩)
  have HJ3 := Aside0.mk hj3
  have HR3 := Aside0.mk hr3
  clear hj3 hr3 HJ1 HR1 HJ2 HR2
  generalize hW3 : w3 = W3 at *
  clear hW3
  go_loopg [7] m (fun gg v7 wr => ∃ (j q : Nat), v7 = .int .i64 ((j : Int) - 1) ∧ j ≤ gg ∧ Aside0 (Car b m n j q) ∧ Aside0 (J g ((List.range (n + 1)).map (digs b m)) wr) ∧ Aside0 (Kd.R (Kd.int .i64) 2 wr w.heap.size (fun _ => True) (.slice (some ⟨g, 0, none⟩) m c) (midL b m j q)))
  case atStart => exact ⟨m, n, by first | rfl | rw [hwm], Nat.le_refl _, ⟨car_start HN.out⟩, HJ3, ⟨by rw [mid_top]; exact HR3.out⟩⟩
  case round =>
   obtain ⟨j, q, rfl, hg2, HC, HJ4, HR4⟩ := hrel
   cases j with
   | zero =>
    have e0 : (((0 : Nat) : Int) - 1) = -1 := rfl
    go_wp2
    refine bodyPost_ret (results_none rfl _ _ _) rfl ?_
    exact ⟨rfl, g, HGB.out, by rw [← car_end HC.out]; exact HJ4.out⟩
   | succ j =>
    have hjm : j + 1 ≤ m := HC.out.2.1
    have e1 : (((j + 1 : Nat) : Int) - 1) = (j : Int) := by omega
    rw [e1]
    clear e1
    have hb0 : 0 < b := by have := HBB.out; omega
    have hbm : b ≤ 1000 := HBB.out.2
    have hmm : m ≤ 1000 := HM.out.2
    have hql : q % b < b := Nat.mod_lt _ hb0
    have p12 : 0 ≤ (j : Int) := by omega
    have q12 : (j : Int) < (m : Int) := by omega
    have hxf := Kd.R_celln 0 HR4.out (j : Int) p12 q12
    rw [show rdOf 0 (midL b m (j + 1) q) (j : Int) = ((q % b : Nat) : Int) from mid_at hjm] at hxf
    have hx0 : wr.cell? ⟨g, j, none⟩ = some (.int .i64 ((q % b : Nat) : Int)) := hxf.1
    have hf0 : wr.frozen? ⟨g, j, none⟩ = false := hxf.2
    clear hxf
    have c8 : decide (0 ≤ (j : Int)) = true := decide_eq_true p12
    have c9 : decide ((j : Int) < 0) = false := decide_eq_false (by omega)
    have hwj : wrap64 ((j : Int) - 1) = (j : Int) - 1 := wrap_id (by omega) (by omega)
    by_cases hq : q % b = b - 1
    ·
     have hqe : (((q % b : Nat) : Int) == (b : Int) - 1) = true := by simp; omega
     have HP := Aside0.mk (show Kd.R (Kd.int .i64) 2 (wr.setCell ⟨g, j, none⟩ (.int .i64 0)) w.heap.size (fun _ => True) (.slice (some ⟨g, 0, none⟩) m c) (midL b m j (q / b)) from by rw [← mid_zero hjm]; exact Kd.R_putn HR4.out (j : Int) (0 : Int))
     have HJ5 := Aside0.mk (HSC.out g _ wr j (.int .i64 0) HGB.out HJ4.out)
     have HC5 := Aside0.mk (car_down hb0 HC.out hq)
     generalize ((q % b : Nat) : Int) = x at *
     clear hq hql hb0 hbm hmm
     go_wp2_with (first | ((with_reducible refine gate_store (t := 2) (p := 28) rfl ?_); refine store_event (t := 2) (p := 28) (v := ?vo_) (w1 := (wr.setCell ⟨g, j, none⟩ (.int .i64 0))) ?hg ?ho ?hn ?hr ?_; (case ho => rfl); (case hg => rfl); (case hn => rfl); (case hr => first | (go_simp; done) | (go_simp; rfl)); intro w4 hw; rw [← hw] at HP HJ5; clear hw hx0 hf0))
     go_roundg j
     case measure => omega
     case rel => exact ⟨j, q / b, by first | rfl | rw [hwj], Nat.le_refl _, HC5, HJ5, HP⟩
    ·
     have hqe : (((q % b : Nat) : Int) == (b : Int) - 1) = false := by simp; omega
     have hw1 : wrap64 (((q % b : Nat) : Int) + 1) = ((q % b : Nat) : Int) + 1 := wrap_id (by omega) (by omega)
     obtain ⟨hne, hdg⟩ := car_grow hb0 HC.out hq
     have HP := Aside0.mk (show Kd.R (Kd.int .i64) 2 (wr.setCell ⟨g, j, none⟩ (.int .i64 (((q % b : Nat) : Int) + 1))) w.heap.size (fun _ => True) (.slice (some ⟨g, 0, none⟩) m c) (digs b m (n + 1)) from by rw [hdg, ← mid_set hjm]; exact Kd.R_putn HR4.out (j : Int) (((q % b : Nat) : Int) + 1))
     have HJ5 := Aside0.mk (HSC.out g _ wr j (.int .i64 (((q % b : Nat) : Int) + 1)) HGB.out HJ4.out)
     have HNE := Aside0.mk hne
     clear hne hdg hq hql hb0 hbm hmm
     generalize ((q % b : Nat) : Int) = x at *
     go_wp2_with (first | ((with_reducible refine gate_store (t := 2) (p := 38) rfl ?_); refine store_event (t := 2) (p := 38) (v := ?vo_) (w1 := (wr.setCell ⟨g, j, none⟩ (.int .i64 (x + 1)))) ?hg ?ho ?hn ?hr ?_; (case ho => rfl); (case hg => rfl); (case hn => rfl); (case hr => first | (go_simp; done) | (go_simp; rfl)); intro w4 hw; rw [← hw] at HP HJ5; clear hw hx0 hf0))
     go_roundg (b ^ m - (n + 1))
     case measure => have := HN.out; have := HG2.out; have := HNE.out; omega
     case rel => exact ⟨n + 1, by have := HN.out; have := HNE.out; omega, Nat.le_refl _, HJ5, HP⟩
end Go.Proofs.Ytdahdeohmbadhaa.TLists
