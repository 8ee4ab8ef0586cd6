/- FamilyTable's function of a list of numbers: its row is put behind the others. -/
import Derived.Test.YtdahdeohmbadhaaTLists
namespace Go.Proofs.Ytdahdeohmbadhaa.TFamR
open Go.RowKit Go.Lib Go.Proofs Go.Proofs.YtdahdeohmbadhaaW.PrintWords Go.Proofs.YtdahdeohmbadhaaW.PrintWords.Kd Go.Proofs.YtdahdeohmbadhaaW.PrintLast Go.Proofs.YtdahdeohmbadhaaW.PrintMore Go.Proofs.Ytdahdeohmbadhaa.G Go.Proofs.Ytdahdeohmbadhaa.Fam Go.Proofs.Ytdahdeohmbadhaa.Loops
attribute [local go_sem] max2_int min2_int max_two min_two max_three min_three max_four min_four
set_option linter.unusedVariables false
set_option linter.unusedSimpArgs false

theorem V_away1 {e : Nat} {W : World} {base n c g : Nat} {ok : Nat → Prop} {ad : Addr} {xs : List Int} (h : Kd.V (Kd.int .i64) e W base ok (.slice (some ad) n c) xs) (h0 : 0 < xs.length) (hok : ok ad.block → ad.block ≠ g) : ad.block ≠ g := by
 obtain ⟨hn, _, hf⟩ := Kd.V_at h
 obtain ⟨ad', cs, he, _, _, _, hk⟩ := Kd.F_get hf 0 0 (Int.le_refl _) (by omega)
 injection he with he
 subst he
 exact hok (hk (by decide))
mutual
def famN.l0 : Nat → Int → List Int → List (List Int) → Int → Int → Int → List Int → Option (Int × List Int)
 | 0, _, _, _, _, _, _, _ => none
 | k + 1, x2, x6, x23, x24, x25, x112000, x112001 => if x25 < x24 then (if 0 ≤ x25 then (if x25 < (x23.length : Int) then (famN.l1 k x2 x6 (rd_L1 x23 x25) x112000 x23 x24 x25 (rd_L1 x23 x25) ((rd_L1 x23 x25).length : Int) 0 x112000 x112001) else (none)) else (none)) else (some (x112000, x112001))
def famN.l1 : Nat → Int → List Int → List Int → Int → List (List Int) → Int → Int → List Int → Int → Int → Int → List Int → Option (Int × List Int)
 | 0, _, _, _, _, _, _, _, _, _, _, _, _ => none
 | k + 1, x2, x6, x8, x9, x23, x24, x25, x31, x32, x33, x112000, x112001 => if x33 < x32 then (if 0 ≤ x33 then (if x33 < (x31.length : Int) then (if x33 < (wrap64 ((x8.length : Int) - 1)) then (if 0 < (x6.length : Int) then (if 1 ≤ (x6.length : Int) then (if x2 = 0 then (none) else (if 0 ≤ (rd x31 x33) then (if (rd x31 x33) < (x112001.length : Int) then (famN.l1 k x2 (x6.drop 1) x8 (Int.tmod (wrap64 ((wrap64 (x9 - (rd x6 0))) + x2)) x2) x23 x24 x25 x31 x32 (wrap64 (x33 + 1)) x112000 (x112001.set ((rd x31 x33) : Int).toNat (wrap64 ((wrap64 ((rd x112001 (rd x31 x33)) * x2)) + (rd x6 0))))) else (none)) else (none))) else (none)) else (none)) else (if 0 ≤ (rd x31 x33) then (if (rd x31 x33) < (x112001.length : Int) then (famN.l1 k x2 x6 x8 x9 x23 x24 x25 x31 x32 (wrap64 (x33 + 1)) x112000 (x112001.set ((rd x31 x33) : Int).toNat (wrap64 ((wrap64 ((rd x112001 (rd x31 x33)) * x2)) + x9)))) else (none)) else (none))) else (none)) else (none)) else (famN.l0 k x2 x6 x23 x24 (wrap64 (x25 + 1)) x112000 x112001)
end
def famN.f (k : Nat) (l0 : List Int) (a1_0 : Int) (l1_1 : List (List Int)) (a2 : Int) : Option (Int × List Int) := if 0 < (l0.length : Int) then (if 0 ≤ a1_0 then (if (a1_0 : Int).toNat ≤ 35184372088832 then (if 1 ≤ (l0.length : Int) then (famN.l0 k a2 (l0.drop 1) l1_1 (l1_1.length : Int) 0 (rd l0 0) (List.replicate (a1_0 : Int).toNat 0)) else (none)) else (none)) else (none)) else (none)
theorem famN.mono_l : ∀ k, (∀ y0 y1 y2 y3 y4 y5 y6, LeO (famN.l0 k y0 y1 y2 y3 y4 y5 y6) (famN.l0 (k + 1) y0 y1 y2 y3 y4 y5 y6)) ∧ (∀ y0 y1 y2 y3 y4 y5 y6 y7 y8 y9 y10 y11, LeO (famN.l1 k y0 y1 y2 y3 y4 y5 y6 y7 y8 y9 y10 y11) (famN.l1 (k + 1) y0 y1 y2 y3 y4 y5 y6 y7 y8 y9 y10 y11))
 | 0 => ⟨fun _ _ _ _ _ _ _ r h => by simp [famN.l0] at h, fun _ _ _ _ _ _ _ _ _ _ _ _ r h => by simp [famN.l1] at h⟩
 | k + 1 => by
  obtain ⟨ih0, ih1⟩ := famN.mono_l k
  refine ⟨?_, ?_⟩
  all_goals (intros; first | unfold famN.l0 | unfold famN.l1)
  all_goals repeat' first
  | (with_reducible exact ih0 _ _ _ _ _ _ _)
  | (with_reducible exact ih1 _ _ _ _ _ _ _ _ _ _ _ _)
  | (with_reducible exact LeO.refl _)
  | (with_reducible exact LeO.none _)
  | (with_reducible refine LeO.ite ?_ ?_)
  | (with_reducible refine LeO.bind ?_ (fun _ => ?_))
  | exact ih0 _ _ _ _ _ _ _
  | exact ih1 _ _ _ _ _ _ _ _ _ _ _ _
  | exact LeO.none _
  | refine LeO.ite ?_ ?_
  | refine LeO.bind ?_ (fun _ => ?_)
theorem famN.mono : ∀ a0 a1 a2 a3 k, LeO (famN.f k a0 a1 a2 a3) (famN.f (k + 1) a0 a1 a2 a3) := by
 intro a0 a1 a2 a3 k
 obtain ⟨ih0, ih1⟩ := famN.mono_l k
 unfold famN.f
 repeat' first
   | (with_reducible exact ih0 _ _ _ _ _ _ _)
   | (with_reducible exact ih1 _ _ _ _ _ _ _ _ _ _ _ _)
   | (with_reducible exact LeO.refl _)
   | (with_reducible exact LeO.none _)
   | (with_reducible refine LeO.ite ?_ ?_)
   | (with_reducible refine LeO.bind ?_ (fun _ => ?_))
   | exact ih0 _ _ _ _ _ _ _
   | exact ih1 _ _ _ _ _ _ _ _ _ _ _ _
   | exact LeO.none _
   | refine LeO.ite ?_ ?_
   | refine LeO.bind ?_ (fun _ => ?_)
def famN.T0 : Bool × List (List Nat × List Nat) := (true, [([], []), ([0], [0]), ([1], [1]), ([], []), ([3], [3]), ([4, 4], [4]), ([2, 5], [2, 5]), ([], []), ([7], [7]), ([], []), ([9, 6, 0, 1, 2, 3, 4, 5, 6, 9], [6, 9]), ([8, 10, 0, 1, 2, 3, 4, 5, 6, 7, 8, 9, 10], [8])])
def famN.B0 : List Nat := [0, 1, 3, 0, 8, 24, 63, 0, 128, 0, 639, 2047]
theorem famN.tab0 : rtab .any (opsOf Try.f117 0) = famN.T0 := by kernel_rfl
theorem famN.bits0 : waitsOk famN.T0.2 famN.B0 = true := by kernel_rfl
def famN.T12 : Bool × List (List Nat × List Nat) := (true, [([], []), ([0], [0]), ([], []), ([], []), ([3], [3]), ([], []), ([4, 5], [4, 5]), ([6], [6]), ([], []), ([7, 8], [7, 8]), ([], []), ([9, 10], [9, 10]), ([1, 2, 0, 1, 2, 3, 4, 5, 6, 7, 8, 9, 10, 11], [1, 2]), ([12, 11, 0, 1, 2, 3, 4, 5, 6, 7, 8, 9, 10, 11], [11, 12])])
def famN.B12 : List Nat := [0, 1, 0, 0, 8, 0, 56, 120, 0, 504, 0, 2040, 4095, 8191]
theorem famN.tab12 : rtab .any (opsOf Try.f117 12) = famN.T12 := by kernel_rfl
theorem famN.bits12 : waitsOk famN.T12.2 famN.B12 = true := by kernel_rfl
set_option maxHeartbeats 8000000 in
set_option maxRecDepth 100000 in
theorem famN.calls (k : Nat) (P0_ : Nat → Prop) (A0 : Option Addr) (c0 : Nat) (l0 : List Int) (a1_0 : Int) (A1_1 : Option Addr) (c1_1 : Nat) (l1_1 : List (List Int)) (a2 : Int) (r1 : Int) (r2 : List Int) (w0 w : World) (gb101 gs gr : Nat) (okr : Nat → Prop) (v : Value) (rows : List S87) (hs0 : Kd.V (Kd.int .i64) 2 w w.heap.size (fun k_ => P0_ k_) (.slice A0 l0.length c0) l0) (hr1_1 : Kd.C (Kd.slice 2 (Kd.int .i64)) w A1_1 l1_1.length l1_1) (hc1_1 : l1_1.length ≤ c1_1) (hPf : ∀ k_, P0_ k_ → k_ ≠ gb101) (hbf : w.heap[gb101]? = some (.cells #[.int .i64 a1_0, .slice A1_1 l1_1.length c1_1] 58 (0, 0))) (hxs : w.cell? ⟨gs, 0, none⟩ = some (.int .i64 a2)) (hbr : w.heap[gr]? = some (.cells #[v] 25 (0, 0))) (hrs : Kd.S k87 87 w w0.heap.size okr v rows) (hfr : ∀ k, w.heap.size ≤ k → okr k) (hbw : Below w0.heap.size w0 w) (hgr : w0.heap.size ≤ gr) (hrl : rows.length ≤ 1000000) (h : famN.f k l0 a1_0 l1_1 a2 = some (r1, r2)) :
  Calls Try.prog 117 #[.slice A0 l0.length c0, .pointer (some ⟨gb101, 0, none⟩), .pointer (some ⟨gs, 0, none⟩), .pointer (some ⟨gr, 0, none⟩)] w fun e w' => e = .returned (.tuple #[]) ∧ ∃ v1, w'.heap[gr]? = some (.cells #[v1] 25 (0, 0)) ∧ Kd.S k87 87 w' w0.heap.size okr v1 (rows ++ [(⟨r1, r2⟩ : S87)]) ∧ Below w0.heap.size w0 w' ∧ ∀ (g : Nat) (cs : Array Value) (t : TypeId), w.heap[g]? = some (.cells cs t (0, 0)) → g ≠ gr → t ≠ 87 → w'.heap[g]? = some (.cells cs t (0, 0)) := by
 have hu58 := Try.underlying58
 have hu87 := Try.underlying87
 have HPF := Aside0.mk hPf
 have HBF := Aside0.mk hbf
 have HXS := Aside0.mk hxs
 have HBR := Aside0.mk hbr
 have HRS := Aside0.mk hrs
 have HFR := Aside0.mk hfr
 have HBW := Aside0.mk hbw
 have HGR := Aside0.mk hgr
 have HRL := Aside0.mk hrl
 clear hPf hbf hxs hbr hrs hfr hbw hgr hrl
 have HO0 := Aside0.mk (show Kd.V (Kd.int .i64) 2 w w.heap.size (fun k_ => (P0_ k_ ∨ w.heap.size ≤ k_)) (.slice A0 l0.length c0) l0 from Kd.V_mono hs0 (fun k_ hk => .inl hk))
 have HR1_1 := Aside0.mk hr1_1
 have HC1_1 := Aside0.mk hc1_1
 clear hr1_1 hc1_1
 have HB := Aside0.mk (Below.refl w.heap.size w)
 have H : (if 0 < (l0.length : Int) then (if 0 ≤ a1_0 then (if (a1_0 : Int).toNat ≤ 35184372088832 then (if 1 ≤ (l0.length : Int) then (famN.l0 k a2 (l0.drop 1) l1_1 (l1_1.length : Int) 0 (rd l0 0) (List.replicate (a1_0 : Int).toNat 0)) else (none)) else (none)) else (none)) else (none)) = some (r1, r2) := h
 clear h
 by_cases c4 : 0 < (l0.length : Int)
 rotate_left
 ·
  rw [if_neg c4] at H
  exact absurd H (by simp)
 rw [if_pos c4] at H
 have c4b0 : decide (0 < (l0.length : Int)) = true := decide_eq_true c4
 have c4b1 : decide (0 < l0.length) = true := decide_eq_true (by omega)
 clear c4
 by_cases c5 : 0 ≤ a1_0
 rotate_left
 ·
  rw [if_neg c5] at H
  exact absurd H (by simp)
 rw [if_pos c5] at H
 have c5b0 := eq_true c5
 have c5b1 : decide (0 ≤ a1_0) = true := decide_eq_true c5
 clear c5
 by_cases c6 : (a1_0 : Int).toNat ≤ 35184372088832
 rotate_left
 ·
  rw [if_neg c6] at H
  exact absurd H (by simp)
 rw [if_pos c6] at H
 have c6b0 := eq_true c6
 have c6b1 : decide ((a1_0 : Int).toNat ≤ 35184372088832) = true := decide_eq_true c6
 clear c6
 obtain ⟨y103, hy103⟩ : ∃ y_ : List Int, y_ = (List.replicate (a1_0 : Int).toNat 0) := ⟨_, rfl⟩
 replace H : (if 1 ≤ (l0.length : Int) then (famN.l0 k a2 (l0.drop 1) l1_1 (l1_1.length : Int) 0 (rd l0 0) y103) else (none)) = some (r1, r2) := by first | (rw [hy103]; with_reducible exact H) | (have H2_ := (Option.bind_some _ _).symm.trans H; rw [hy103]; with_reducible exact H2_) | (have H2_ := (Option.bind_some _ _).symm.trans H; with_reducible exact H2_) | with_reducible exact H | (rw [hy103]; exact H) | exact H
 have Ny103 := Aside0.mk hy103
 clear hy103
 by_cases c7 : 1 ≤ (l0.length : Int)
 rotate_left
 ·
  rw [if_neg c7] at H
  exact absurd H (by simp)
 rw [if_pos c7] at H
 have c7b0 := eq_true c7
 have c7b1 : decide (1 ≤ (l0.length : Int)) = true := decide_eq_true c7
 clear c7
 obtain ⟨y106, hy106⟩ : ∃ y_ : List Int, y_ = (l0.drop 1) := ⟨_, rfl⟩
 replace H : (famN.l0 k a2 y106 l1_1 (l1_1.length : Int) 0 (rd l0 0) y103) = some (r1, r2) := by first | (rw [hy106]; with_reducible exact H) | (have H2_ := (Option.bind_some _ _).symm.trans H; rw [hy106]; with_reducible exact H2_) | (have H2_ := (Option.bind_some _ _).symm.trans H; with_reducible exact H2_) | with_reducible exact H | (rw [hy106]; exact H) | exact H
 have Ny106 := Aside0.mk hy106
 clear hy106
 have H' := Aside0.mk H
 clear H
 go_enter Try.func117, Try.ntmps117
 have n0_ := Aside0.mk (Kd.V_mono HO0.out (fun k_ hk => (⟨hk, hk.elim (fun h_ => HPF.out k_ h_) (fun h_ e_ => by have h2_ := blk_lt HBF.out; omega)⟩ : _ ∧ k_ ≠ gb101)))
 clear HO0
 have HO0 := n0_
 clear n0_
 have BK101 := HBF
 try go_wp2
 have n0_ := Aside0.mk (Kd.V_drew HO0.out)
 have n1_ := Aside0.mk (blk_drew BK101.out)
 have n2_ := Aside0.mk (below_drew1 HB.out)
 clear HO0
 clear BK101
 clear HB
 have HO0 := n0_
 have BK101 := n1_
 have HB := n2_
 clear n0_ n1_ n2_
 have p102 : 0 ≤ (0 : Int) := (by omega)
 have q102 : 0 < (l0.length : Int) := of_decide_eq_true (by first | (with_reducible assumption) | assumption)
 obtain ⟨ad102, e102, hx102_0⟩ := Kd.at_int (Kd.V_reads' HO0.out).2.2 0 p102 q102
 cases e102
 have HL0 := Aside0.mk (show 0 < l0.length by omega)
 have qi102 : (0 < l0.length) = True := eq_true (by omega)
 (try rw [show ((0 : Int)).toNat = 0 from rfl] at hx102_0)
 (try rw [Addr.add_zero'] at hx102_0)
 replace p102 := eq_true p102
 replace q102 := eq_true q102
 have q10 : (1 : Int) ≤ ((l0.length : Int) : Int) := of_decide_eq_true (by first | (with_reducible assumption) | assumption)
 obtain ⟨i010, hi010, _, hsz10, _⟩ := info_parts info2
 have hroom10 : l0.length ≤ c0 := (Kd.V_reads' HO0.out).2.1
 have hC10 : Kd.F (Kd.int .i64) _ _ (some ad102) l0.length l0 := (Kd.V_at (base := w.heap.size) HO0.out).2.2
 have hcut10 := cut_from (P := Try.prog) 22 2 .i64 Try.underlying22 hi010 1 hsz10 (some ad102) l0.length c0 1 (by omega) q10
 have hr10 := Kd.F_cut (m := (1 : Int).toNat) (c := c0) hC10 (by omega) hroom10
 obtain ⟨A10, hA10⟩ : ∃ A1, A1 = (if c0 = (1 : Int).toNat then (some ad102) else ((some ad102) : Option Addr).map (·.add ((1 : Int).toNat * 1))) := ⟨_, rfl⟩
 obtain ⟨c10, hc10⟩ : ∃ c1, c1 = c0 - (1 : Int).toNat := ⟨_, rfl⟩
 have hy10 : y106.length = l0.length - (1 : Int).toNat := (by rw [Ny106.out, List.length_drop] <;> omega)
 rw [show (l0).drop (1 : Int).toNat = y106 from Ny106.out.symm] at hr10
 replace hr10 : Kd.F (Kd.int .i64) _ _ A10 y106.length y106 := (by rw [hA10]; exact hr10)
 rw [← hy10, ← hA10, ← hc10] at hcut10
 have HO110 := Aside0.mk (show Kd.V (Kd.int .i64) 2 _ w.heap.size _ (.slice A10 y106.length c10) y106 from Kd.V_mk (by rw [hy10, hc10]; exact Nat.sub_le_sub_right hroom10 _) hr10)
 have HC110 := Aside0.mk (show y106.length ≤ c10 from by rw [hy10, hc10]; exact Nat.sub_le_sub_right hroom10 _)
 clear hr10 hC10 hroom10 hi010 hsz10 hc10
 have KY10 := Aside0.mk hy10
 have KA10 := Aside0.mk hA10
 clear hy10 hA10
 replace q10 := eq_true q10
 refine start_ (n := 12) (S := fun w' => w'.cell? ⟨gb101, 0, none⟩ = some (.int .i64 a1_0) ∧ w'.cell? ⟨gb101, 1, none⟩ = some (.slice A1_1 l1_1.length c1_1) ∧ w'.cell? ad102 = some (.int .i64 (rd l0 0))) (ds := []) #[false, false, false, false, false, false, false, false, false, false, false, false] (by kernel_rfl) rfl rfl ⟨(blk_cell BK101.out 0).trans rfl, (blk_cell BK101.out 1).trans rfl, hx102_0⟩ (fun hHeld => ?_); refine with_tabW famN.tab0 famN.bits0 (fun HT_ HW_ => ?_)
 generalize w.drew = w9 at HO0 BK101 HB HO110 hx102_0 hHeld ⊢
 refine pure_ (i := 0) (N := some 13) (v := ?_) (a' := ?_) #[true, false, false, false, false, false, false, false, false, false, false, false] rfl rfl (any_of HT_.out (by kernel_rfl)) (fun _ _ _ h => h) (Or.inl ⟨by rfl, ?_⟩) ?_ ?_
 rotate_left
 ·
  intro w'
  go_simp
  with_reducible rfl
 rotate_left
 ·
  simp only [Act.put, List.setIfInBounds_toArray, List.set_cons_zero, List.set_cons_succ, i64_w, i32_w]
  rfl
 refine pure_ (i := 1) (N := some 14) (v := ?_) (a' := ?_) #[true, true, false, false, false, false, false, false, false, false, false, false] rfl rfl (any_of HT_.out (by kernel_rfl)) (fun _ _ _ h => h) (Or.inl ⟨by rfl, ?_⟩) ?_ ?_
 rotate_left
 ·
  intro w'
  go_simp
  with_reducible rfl
 rotate_left
 ·
  simp only [Act.put, List.setIfInBounds_toArray, List.set_cons_zero, List.set_cons_succ, i64_w, i32_w]
  rfl
 refine pure_ (i := 3) (N := some 16) (v := ?_) (a' := ?_) #[true, true, false, true, false, false, false, false, false, false, false, false] rfl rfl (any_of HT_.out (by kernel_rfl)) (fun _ _ _ h => h) (Or.inl ⟨by rfl, ?_⟩) ?_ ?_
 rotate_left
 ·
  intro w'
  go_simp
  with_reducible rfl
 rotate_left
 ·
  simp only [Act.put, List.setIfInBounds_toArray, List.set_cons_zero, List.set_cons_succ, i64_w, i32_w]
  rfl
 refine pure_ (i := 7) (N := some 20) (v := ?_) (a' := ?_) #[true, true, false, true, false, false, false, true, false, false, false, false] rfl rfl (any_of HT_.out (by kernel_rfl)) (fun _ _ _ h => h) (Or.inl ⟨by rfl, ?_⟩) ?_ ?_
 rotate_left
 ·
  intro w'
  go_simp
  with_reducible rfl
 rotate_left
 ·
  simp only [Act.put, List.setIfInBounds_toArray, List.set_cons_zero, List.set_cons_succ, i64_w, i32_w]
  rfl
 refine pure_ (i := 8) (N := some 21) (v := ?_) (a' := ?_) #[true, true, false, true, false, false, false, true, true, false, false, false] rfl rfl (any_of HT_.out (by kernel_rfl)) (fun _ _ _ h => h) (Or.inl ⟨by rfl, ?_⟩) ?_ ?_
 rotate_left
 ·
  intro w'
  go_simp
  with_reducible rfl
 rotate_left
 ·
  simp only [Act.put, List.setIfInBounds_toArray, List.set_cons_zero, List.set_cons_succ, i64_w, i32_w]
  rfl
 refine take_ (i := 2) (N := some 15) (v := ?_) (a' := ?_) #[true, true, true, true, false, false, false, true, true, false, false, false] rfl rfl (take_ofW HT_.out HW_.out (by kernel_rfl)) (fun _ _ _ h => h) (Or.inl ⟨by rfl, ?_⟩) hHeld ?_ ?_
 rotate_left
 ·
  rintro w' ⟨s0, s1, s2⟩
  go_simp
  with_reducible rfl
 rotate_left
 ·
  simp only [Act.put, List.setIfInBounds_toArray, List.set_cons_zero, List.set_cons_succ, i64_w, i32_w]
  rfl
 refine take_ (i := 4) (N := some 17) (v := ?_) (a' := ?_) #[true, true, true, true, true, false, false, true, true, false, false, false] rfl rfl (take_ofW HT_.out HW_.out (by kernel_rfl)) (fun _ _ _ h => h) (Or.inl ⟨by rfl, ?_⟩) hHeld ?_ ?_
 rotate_left
 ·
  rintro w' ⟨s0, s1, s2⟩
  go_simp
  with_reducible rfl
 rotate_left
 ·
  simp only [Act.put, List.setIfInBounds_toArray, List.set_cons_zero, List.set_cons_succ, i64_w, i32_w]
  rfl
 refine join_ (σ := Value × Nat) 2 #[true, true, true, true, true, true, true, true, true, true, false, false] (fun s_ => [(18, s_.1), (5, .pointer (some ⟨s_.2, 0, none⟩)), (19, .agg #[.int .i64 (rd l0 0), s_.1])]) (fun s_ w' => (w'.cell? ⟨gb101, 0, none⟩ = some (.int .i64 a1_0) ∧ w'.cell? ⟨gb101, 1, none⟩ = some (.slice A1_1 l1_1.length c1_1) ∧ w'.cell? ad102 = some (.int .i64 (rd l0 0))) ∧ (Kd.V (Kd.int .i64) 2 w' w.heap.size (fun k_ => (P0_ k_ ∨ w.heap.size ≤ k_) ∧ some k_ ≠ (s_.1 : Value).ownBlock ∧ k_ ≠ gb101 ∧ k_ ≠ s_.2) (.slice (some ad102) l0.length c0) l0) ∧ (Kd.R (Kd.int .i64) 2 w' w.heap.size (fun k_ => (w.heap.size ≤ k_)) s_.1 y103) ∧ (Kd.V (Kd.int .i64) 2 w' w.heap.size (fun k_ => (P0_ k_ ∨ w.heap.size ≤ k_) ∧ some k_ ≠ (s_.1 : Value).ownBlock ∧ k_ ≠ gb101 ∧ k_ ≠ s_.2) (.slice A10 y106.length c10) y106) ∧ (w'.heap[gb101]? = some (.cells #[.int .i64 a1_0, .slice A1_1 l1_1.length c1_1] 58 (0, 0))) ∧ (w'.heap[s_.2]? = some (.cells #[.int .i64 0, .slice none 0 0] 87 (0, 0))) ∧ (w.heap.size ≤ s_.2) ∧ (w.heap.size ≤ s_.2) ∧ (gb101 ≠ s_.2) ∧ (s_.2 ≠ gb101) ∧ (Below w.heap.size w w')) ?_ ?_
 rotate_left
 ·
  intro hCont
  refine two_ (i := 5) (j := 9) (Ni := some 18) (Nj := some 5) #[true, true, true, true, true, true, false, true, true, false, false, false] #[true, true, true, true, true, false, false, true, true, true, false, false] rfl rfl rfl rfl (two_of HT_.out (by kernel_rfl)) (by decide) (by decide) (fun K hK => ?_) (fun K hK => ?_)
  rotate_left
  ·
   skip
   refine box_step ?hg (N := 5) ?hd (cs := #[.int .i64 0, .slice none 0 0]) (t := 87) ?hr ?_; (case hd => rfl); (case hg => rfl); (case hr => first | (go_simp; done) | (go_simp; rfl))
   intro gb111 hg w11 hbox hb
   have HS2_ := (hb.cell (World.block_lt_of_cell? _ _ (hHeld.2.2))).trans (hHeld.2.2)
   have n0_ := Aside0.mk (Kd.V_below (Kd.V_elderB (by (with_reducible repeat (first | apply Kd.V_alloc | apply Kd.V_drewN | apply Kd.V_drew)); exact HO0.out) gb111 (Nat.le_of_eq hg.symm)) hb)
   have n1_ := Aside0.mk (Kd.V_below (Kd.V_elderB (by (with_reducible repeat (first | apply Kd.V_alloc | apply Kd.V_drewN | apply Kd.V_drew)); exact HO110.out) gb111 (Nat.le_of_eq hg.symm)) hb)
   have n2_ := Aside0.mk (blk_below BK101.out hb)
   have n3_ := Aside0.mk (below_step HB.out hb)
   have n4_ := Aside0.mk (hbox)
   have n5_ := Aside0.mk ((by rw [hg]; exact (below_size HB.out) : w.heap.size ≤ gb111))
   have n6_ := Aside0.mk ((by rw [hg]; exact (below_size HB.out) : w.heap.size ≤ gb111))
   have n7_ := Aside0.mk ((by rw [hg]; exact Nat.ne_of_lt (blk_lt BK101.out) : gb101 ≠ gb111))
   have n8_ := Aside0.mk ((by rw [hg]; exact Nat.ne_of_gt (blk_lt BK101.out) : gb111 ≠ gb101))
   clear HO0
   clear HO110
   clear BK101
   clear HB
   have HO0 := n0_
   have HO110 := n1_
   have BK101 := n2_
   have HB := n3_
   have BK111 := n4_
   have GW111 := n5_
   have GE111 := n6_
   have NB101_111 := n7_
   have NB111_101 := n8_
   clear n0_ n1_ n2_ n3_ n4_ n5_ n6_ n7_ n8_
   clear hb hbox hg
   refine hK.out _ _ ⟨(blk_cell BK101.out 0).trans rfl, (blk_cell BK101.out 1).trans rfl, HS2_⟩ (fun hHeld => ?_)
   clear hK K
   refine norm_ (a' := ?_) ?_ ?_
   rotate_left
   ·
    show Act.put _ (some 5) _ = _
    simp only [Act.put, List.setIfInBounds_toArray, List.set_cons_zero, List.set_cons_succ, i64_w, i32_w]
    rfl
   refine one_ (i := 5) (N := some 18) #[true, true, true, true, true, true, false, true, true, true, false, false] rfl rfl (one_of HT_.out (by kernel_rfl)) (by decide) (fun K hK => ?_)
   refine Kd.R_make_step (Kd.int .i64) _ 2 (by rfl) (N := 18) rfl 22 _ _ rfl a1_0 rfl rfl Try.underlying22 (.int .i64 0) 8 info2 rfl (by decide) (by omega) 0 (ok := fun _ => True) (okp := fun _ => True) rfl (fun _ hk => hk) trivial (of_decide_eq_true (by first | (with_reducible assumption) | assumption)) (Nat.le_trans (Nat.mul_le_mul_right _ (of_decide_eq_true (by first | (with_reducible assumption) | assumption) : a1_0.toNat ≤ 35184372088832)) (by omega)) (Below.refl _ _) (Nat.le_refl _) ?_
   intro v104 w12 ho13 hb hg_ hnew_
   have HS2_ := (hb.cell (World.block_lt_of_cell? _ _ (hHeld.2.2))).trans (hHeld.2.2)
   clear hg_ hnew_
   (first | rw [← Ny103.out] at ho13 | (simp only [Int.reduceToNat] at ho13; rw [← Ny103.out] at ho13))
   have n0_ := Aside0.mk (Kd.V_elder' (by (with_reducible repeat (first | apply Kd.V_alloc | apply Kd.V_drewN | apply Kd.V_drew)); exact HO0.out) (Kd.R_base ho13) hb)
   have n1_ := Aside0.mk (Kd.V_elder' (by (with_reducible repeat (first | apply Kd.V_alloc | apply Kd.V_drewN | apply Kd.V_drew)); exact HO110.out) (Kd.R_base ho13) hb)
   have n2_ := Aside0.mk (Kd.R_lower (Kd.R_newM (M := fun k_ => (w.heap.size ≤ k_)) ho13 (below_size HB.out) (fun k_ h_ => h_)) (below_size HB.out))
   have n3_ := Aside0.mk (blk_below BK101.out hb)
   have n4_ := Aside0.mk (blk_below BK111.out hb)
   have n5_ := Aside0.mk (below_step HB.out hb)
   clear HO0
   clear HO110
   clear BK101
   clear BK111
   clear HB
   have HO0 := n0_
   have HO110 := n1_
   have HO105 := n2_
   have BK101 := n3_
   have BK111 := n4_
   have HB := n5_
   clear n0_ n1_ n2_ n3_ n4_ n5_
   clear hb ho13
   obtain ⟨Ao14, co14, eo14⟩ := Kd.R_slice HO105.out
   (first | subst eo14 | (injection eo14 with f1_ f2_ f3_; have f4_ := f1_.symm; have f5_ := f3_.symm; clear f1_ f2_ f3_; subst f4_; subst f5_))
   refine hK.out _ _ ⟨(blk_cell BK101.out 0).trans rfl, (blk_cell BK101.out 1).trans rfl, HS2_⟩ (fun hHeld => ?_)
   clear hK K
   refine norm_ (a' := ?_) ?_ ?_
   rotate_left
   ·
    show Act.put _ (some 18) _ = _
    simp only [Act.put, List.setIfInBounds_toArray, List.set_cons_zero, List.set_cons_succ, i64_w, i32_w]
    rfl
   refine pure_ (i := 6) (N := some 19) (v := ?_) (a' := ?_) #[true, true, true, true, true, true, true, true, true, true, false, false] rfl rfl (any_of HT_.out (by kernel_rfl)) (fun _ _ _ h => h) (Or.inl ⟨by rfl, ?_⟩) ?_ ?_
   rotate_left
   ·
    intro w'
    go_simp
    with_reducible rfl
   rotate_left
   ·
    simp only [Act.put, List.setIfInBounds_toArray, List.set_cons_zero, List.set_cons_succ, i64_w, i32_w]
    rfl
   exact norm_ (by simp only [putAll, Act.put, List.setIfInBounds_toArray, List.set_cons_zero, List.set_cons_succ]) (hCont (.slice Ao14 y103.length co14, gb111) _ ⟨hHeld, (by (with_reducible repeat (first | apply Kd.V_alloc | apply Kd.V_drewN | apply Kd.V_drew)); exact Kd.V_mono HO0.out (fun _ hk => ⟨hk.1.1.1, ⟨hk.2, ⟨hk.1.1.2, hk.1.2⟩⟩⟩)), (by (with_reducible repeat (first | apply Kd.R_alloc | apply Kd.R_drewN | apply Kd.R_drew)); exact Kd.R_mono HO105.out (fun _ hk => hk.1)), (by (with_reducible repeat (first | apply Kd.V_alloc | apply Kd.V_drewN | apply Kd.V_drew)); exact Kd.V_mono HO110.out (fun _ hk => ⟨hk.1.1.1, ⟨hk.2, ⟨hk.1.1.2, hk.1.2⟩⟩⟩)), BK101.out, BK111.out, GW111.out, GE111.out, NB101_111.out, NB111_101.out, HB.out⟩)
  skip
  refine Kd.R_make_step (Kd.int .i64) _ 2 (by rfl) (N := 18) rfl 22 _ _ rfl a1_0 rfl rfl Try.underlying22 (.int .i64 0) 8 info2 rfl (by decide) (by omega) 0 (ok := fun _ => True) (okp := fun _ => True) rfl (fun _ hk => hk) trivial (of_decide_eq_true (by first | (with_reducible assumption) | assumption)) (Nat.le_trans (Nat.mul_le_mul_right _ (of_decide_eq_true (by first | (with_reducible assumption) | assumption) : a1_0.toNat ≤ 35184372088832)) (by omega)) (Below.refl _ _) (Nat.le_refl _) ?_
  intro v104 w11 ho12 hb hg_ hnew_
  have HS2_ := (hb.cell (World.block_lt_of_cell? _ _ (hHeld.2.2))).trans (hHeld.2.2)
  clear hg_ hnew_
  (first | rw [← Ny103.out] at ho12 | (simp only [Int.reduceToNat] at ho12; rw [← Ny103.out] at ho12))
  have n0_ := Aside0.mk (Kd.V_elder' (by (with_reducible repeat (first | apply Kd.V_alloc | apply Kd.V_drewN | apply Kd.V_drew)); exact HO0.out) (Kd.R_base ho12) hb)
  have n1_ := Aside0.mk (Kd.V_elder' (by (with_reducible repeat (first | apply Kd.V_alloc | apply Kd.V_drewN | apply Kd.V_drew)); exact HO110.out) (Kd.R_base ho12) hb)
  have n2_ := Aside0.mk (Kd.R_lower (Kd.R_newM (M := fun k_ => (w.heap.size ≤ k_)) ho12 (below_size HB.out) (fun k_ h_ => h_)) (below_size HB.out))
  have n3_ := Aside0.mk (blk_below BK101.out hb)
  have n4_ := Aside0.mk (below_step HB.out hb)
  clear HO0
  clear HO110
  clear BK101
  clear HB
  have HO0 := n0_
  have HO110 := n1_
  have HO105 := n2_
  have BK101 := n3_
  have HB := n4_
  clear n0_ n1_ n2_ n3_ n4_
  clear hb ho12
  obtain ⟨Ao13, co13, eo13⟩ := Kd.R_slice HO105.out
  (first | subst eo13 | (injection eo13 with f1_ f2_ f3_; have f4_ := f1_.symm; have f5_ := f3_.symm; clear f1_ f2_ f3_; subst f4_; subst f5_))
  refine hK.out _ _ ⟨(blk_cell BK101.out 0).trans rfl, (blk_cell BK101.out 1).trans rfl, HS2_⟩ (fun hHeld => ?_)
  clear hK K
  refine norm_ (a' := ?_) ?_ ?_
  rotate_left
  ·
   show Act.put _ (some 18) _ = _
   simp only [Act.put, List.setIfInBounds_toArray, List.set_cons_zero, List.set_cons_succ, i64_w, i32_w]
   rfl
  refine pure_ (i := 6) (N := some 19) (v := ?_) (a' := ?_) #[true, true, true, true, true, true, true, true, true, false, false, false] rfl rfl (any_of HT_.out (by kernel_rfl)) (fun _ _ _ h => h) (Or.inl ⟨by rfl, ?_⟩) ?_ ?_
  rotate_left
  ·
   intro w'
   go_simp
   with_reducible rfl
  rotate_left
  ·
   simp only [Act.put, List.setIfInBounds_toArray, List.set_cons_zero, List.set_cons_succ, i64_w, i32_w]
   rfl
  refine one_ (i := 9) (N := some 5) #[true, true, true, true, true, true, true, true, true, true, false, false] rfl rfl (one_of HT_.out (by kernel_rfl)) (by decide) (fun K hK => ?_)
  refine box_step ?hg (N := 5) ?hd (cs := #[.int .i64 0, .slice none 0 0]) (t := 87) ?hr ?_; (case hd => rfl); (case hg => rfl); (case hr => first | (go_simp; done) | (go_simp; rfl))
  intro gb111 hg w14 hbox hb
  have HS2_ := (hb.cell (World.block_lt_of_cell? _ _ (hHeld.2.2))).trans (hHeld.2.2)
  have n0_ := Aside0.mk (Kd.V_below (Kd.V_elderB (by (with_reducible repeat (first | apply Kd.V_alloc | apply Kd.V_drewN | apply Kd.V_drew)); exact HO0.out) gb111 (Nat.le_of_eq hg.symm)) hb)
  have n1_ := Aside0.mk (Kd.V_below (Kd.V_elderB (by (with_reducible repeat (first | apply Kd.V_alloc | apply Kd.V_drewN | apply Kd.V_drew)); exact HO110.out) gb111 (Nat.le_of_eq hg.symm)) hb)
  have n2_ := Aside0.mk (Kd.R_below (by (with_reducible repeat (first | apply Kd.R_alloc | apply Kd.R_drewN | apply Kd.R_drew)); exact HO105.out) hb)
  have n3_ := Aside0.mk (blk_below BK101.out hb)
  have n4_ := Aside0.mk (below_step HB.out hb)
  have n5_ := Aside0.mk (hbox)
  have n6_ := Aside0.mk ((by rw [hg]; exact (below_size HB.out) : w.heap.size ≤ gb111))
  have n7_ := Aside0.mk ((by rw [hg]; exact (below_size HB.out) : w.heap.size ≤ gb111))
  have n8_ := Aside0.mk ((by rw [hg]; exact Nat.ne_of_lt (blk_lt BK101.out) : gb101 ≠ gb111))
  have n9_ := Aside0.mk ((by rw [hg]; exact Nat.ne_of_gt (blk_lt BK101.out) : gb111 ≠ gb101))
  clear HO0
  clear HO110
  clear HO105
  clear BK101
  clear HB
  have HO0 := n0_
  have HO110 := n1_
  have HO105 := n2_
  have BK101 := n3_
  have HB := n4_
  have BK111 := n5_
  have GW111 := n6_
  have GE111 := n7_
  have NB101_111 := n8_
  have NB111_101 := n9_
  clear n0_ n1_ n2_ n3_ n4_ n5_ n6_ n7_ n8_ n9_
  clear hb hbox hg
  refine hK.out _ _ ⟨(blk_cell BK101.out 0).trans rfl, (blk_cell BK101.out 1).trans rfl, HS2_⟩ (fun hHeld => ?_)
  clear hK K
  refine norm_ (a' := ?_) ?_ ?_
  rotate_left
  ·
   show Act.put _ (some 5) _ = _
   simp only [Act.put, List.setIfInBounds_toArray, List.set_cons_zero, List.set_cons_succ, i64_w, i32_w]
   rfl
  exact norm_ (by simp only [putAll, Act.put, List.setIfInBounds_toArray, List.set_cons_zero, List.set_cons_succ]) (hCont (.slice Ao13 y103.length co13, gb111) _ ⟨hHeld, (by (with_reducible repeat (first | apply Kd.V_alloc | apply Kd.V_drewN | apply Kd.V_drew)); exact Kd.V_mono HO0.out (fun _ hk => ⟨hk.1.1.1, ⟨hk.1.2, ⟨hk.1.1.2, hk.2⟩⟩⟩)), (by (with_reducible repeat (first | apply Kd.R_alloc | apply Kd.R_drewN | apply Kd.R_drew)); exact Kd.R_mono HO105.out (fun _ hk => hk.1)), (by (with_reducible repeat (first | apply Kd.V_alloc | apply Kd.V_drewN | apply Kd.V_drew)); exact Kd.V_mono HO110.out (fun _ hk => ⟨hk.1.1.1, ⟨hk.1.2, ⟨hk.1.1.2, hk.2⟩⟩⟩)), BK101.out, BK111.out, GW111.out, GE111.out, NB101_111.out, NB111_101.out, HB.out⟩)
 rintro ⟨v104, gb111⟩ w15 ⟨hS_, h0_, h1_, h2_, h3_, h4_, h5_, h6_, h7_, h8_, h9_⟩
 have n0_ : Aside0 (Kd.V (Kd.int .i64) 2 w15 w.heap.size (fun k_ => (P0_ k_ ∨ w.heap.size ≤ k_) ∧ some k_ ≠ (v104 : Value).ownBlock ∧ k_ ≠ gb101 ∧ k_ ≠ gb111) (.slice (some ad102) l0.length c0) l0) := ⟨h0_⟩
 have n1_ : Aside0 (Kd.R (Kd.int .i64) 2 w15 w.heap.size (fun k_ => (w.heap.size ≤ k_)) v104 y103) := ⟨h1_⟩
 have n2_ : Aside0 (Kd.V (Kd.int .i64) 2 w15 w.heap.size (fun k_ => (P0_ k_ ∨ w.heap.size ≤ k_) ∧ some k_ ≠ (v104 : Value).ownBlock ∧ k_ ≠ gb101 ∧ k_ ≠ gb111) (.slice A10 y106.length c10) y106) := ⟨h2_⟩
 have n3_ : Aside0 (w15.heap[gb101]? = some (.cells #[.int .i64 a1_0, .slice A1_1 l1_1.length c1_1] 58 (0, 0))) := ⟨h3_⟩
 have n4_ : Aside0 (w15.heap[gb111]? = some (.cells #[.int .i64 0, .slice none 0 0] 87 (0, 0))) := ⟨h4_⟩
 have n5_ : Aside0 (w.heap.size ≤ gb111) := ⟨h5_⟩
 have n6_ : Aside0 (w.heap.size ≤ gb111) := ⟨h6_⟩
 have n7_ : Aside0 (gb101 ≠ gb111) := ⟨h7_⟩
 have n8_ : Aside0 (gb111 ≠ gb101) := ⟨h8_⟩
 have n9_ : Aside0 (Below w.heap.size w w15) := ⟨h9_⟩
 clear HO0
 clear BK101
 clear HB
 clear h0_ h1_ h2_ h3_ h4_ h5_ h6_ h7_ h8_ h9_
 have HO0 := n0_
 have HO105 := n1_
 have HO110 := n2_
 have BK101 := n3_
 have BK111 := n4_
 have GW111 := n5_
 have GE111 := n6_
 have NB101_111 := n7_
 have NB111_101 := n8_
 have HB := n9_
 clear n0_ n1_ n2_ n3_ n4_ n5_ n6_ n7_ n8_ n9_
 have hHeld : w15.cell? ⟨gb101, 0, none⟩ = some (.int .i64 a1_0) ∧ w15.cell? ⟨gb101, 1, none⟩ = some (.slice A1_1 l1_1.length c1_1) ∧ w15.cell? ad102 = some (.int .i64 (rd l0 0)) := hS_
 obtain ⟨Ao16, co16, eo16⟩ := Kd.R_slice HO105.out
 (first | subst eo16 | (injection eo16 with f1_ f2_ f3_; have f4_ := f1_.symm; have f5_ := f3_.symm; clear f1_ f2_ f3_; subst f4_; subst f5_))
 refine norm_ (a' := ?_) ?_ ?_
 rotate_left
 ·
  simp only [putAll, Act.put, List.setIfInBounds_toArray, List.set_cons_zero, List.set_cons_succ]
  rfl
 refine one_ (i := 10) (N := none) #[true, true, true, true, true, true, true, true, true, true, true, false] rfl rfl (one_of HT_.out (by kernel_rfl)) (by decide) (fun K hK => ?_)
 have hs17 : w15.cell? ⟨gb111, 0, none⟩ = some (.int .i64 0) := (blk_cell BK111.out 0).trans rfl
 have hfs17 := blk_frozen BK111.out 0
 have hns17_0 := NB101_111.out
 have hms17_0 := NB111_101.out
 have hs18 : w15.cell? ⟨gb111, 1, none⟩ = some (.slice none 0 0) := (blk_cell BK111.out 1).trans rfl
 have hfs18 := blk_frozen BK111.out 1
 have hns18_0 := NB101_111.out
 have hms18_0 := NB111_101.out
 refine skip_ (w1 := ?_) (by rfl) rfl ?_ ?_
 rotate_left
 ·
  go_simp
  rfl
 refine hK.out _ _ ⟨((cell_far (p := ⟨gb111, _, none⟩) NB101_111.out _).trans (((cell_far (p := ⟨gb111, _, none⟩) NB101_111.out _).trans (hHeld.1)))), ((cell_far (p := ⟨gb111, _, none⟩) NB101_111.out _).trans (((cell_far (p := ⟨gb111, _, none⟩) NB101_111.out _).trans (hHeld.2.1)))), ((cell_far (p := ⟨gb111, _, none⟩) (V_away1 HO0.out HL0.out (fun hk => hk.2.2.2)) _).trans (((cell_far (p := ⟨gb111, _, none⟩) (V_away1 HO0.out HL0.out (fun hk => hk.2.2.2)) _).trans (hHeld.2.2))))⟩ (fun hHeld => ?_)
 clear hK K
 refine pure_ (i := 11) (N := some 6) (v := ?_) (a' := ?_) #[true, true, true, true, true, true, true, true, true, true, true, true] rfl rfl (any_of HT_.out (by kernel_rfl)) (fun _ _ _ h => h) (Or.inl ⟨by rfl, ?_⟩) ?_ ?_
 rotate_left
 ·
  intro w'
  go_simp
  with_reducible rfl
 rotate_left
 ·
  simp only [Act.put, List.setIfInBounds_toArray, List.set_cons_zero, List.set_cons_succ, i64_w, i32_w]
  rfl
 refine done_ (done_of HT_.out (by kernel_rfl)) ?_
 have hnb19 := NB101_111.out
 have hnc19 := NB111_101.out
 have hcz20_0 : w15.cell? ⟨gb101, 0, none⟩ = some (.int .i64 a1_0) := (blk_cell BK101.out 0).trans rfl
 have hcz20_1 : w15.cell? ⟨gb101, 1, none⟩ = some (.slice A1_1 l1_1.length c1_1) := (blk_cell BK101.out 1).trans rfl
 have hfz20_0 := blk_frozen BK101.out 0
 have hfz20_1 := blk_frozen BK101.out 1
 try go_wp2
 go_loopg [6, 25] k (fun kq v6 v25 w' => ∃ (x6_1 : List Int) (x25_1 : Int) (x112001_1 : List Int) (u112001 : Value), v25 = .int .i64 x25_1 ∧ Aside0 (famN.l0 kq a2 x6_1 l1_1 (l1_1.length : Int) x25_1 (rd l0 0) x112001_1 = some (r1, r2)) ∧ Aside0 (kq ≤ k) ∧ Aside0 (Kd.V (Kd.int .i64) 2 w' w.heap.size (fun k_ => (P0_ k_ ∨ w.heap.size ≤ k_) ∧ some k_ ≠ (u112001 : Value).ownBlock ∧ k_ ≠ gb101 ∧ k_ ≠ gb111) v6 x6_1) ∧ Aside0 (Kd.R (Kd.int .i64) 2 w' w.heap.size (fun k_ => (w.heap.size ≤ k_)) u112001 x112001_1) ∧ Aside0 (w'.heap[gb101]? = some (.cells #[.int .i64 a1_0, (.slice A1_1 l1_1.length c1_1)] 58 (0, 0))) ∧ Aside0 (w'.heap[gb111]? = some (.cells #[.int .i64 (rd l0 0), u112001] 87 (0, 0))) ∧ Aside0 (Below w.heap.size w w'))
 case atStart => exact ⟨(y106), (0), (y103), (.slice Ao16 y103.length co16), rfl, H', ⟨Nat.le_refl _⟩, ⟨by (with_reducible repeat (first | apply Kd.V_alloc | apply Kd.V_drewN | apply Kd.V_drew)); exact Kd.V_mono (Kd.V_far (p := ⟨gb111, 1, none⟩) (Kd.V_far (p := ⟨gb111, 0, none⟩) (Kd.V_mono HO110.out (fun k_ hk => (⟨hk, hk.2.2.2⟩ : _ ∧ k_ ≠ gb111))) (fun _ hk => hk.2) (.int .i64 (rd l0 0))) (fun _ hk => hk.2) (.slice Ao16 y103.length co16)) (fun _ hk => ⟨hk.1.1, ⟨hk.1.2.1, ⟨hk.1.2.2.1, hk.1.2.2.2⟩⟩⟩)⟩, ⟨by (with_reducible repeat (first | apply Kd.R_alloc | apply Kd.R_drewN | apply Kd.R_drew)); exact Kd.R_mono (Kd.R_far (p := ⟨gb111, 1, none⟩) (Kd.R_far (p := ⟨gb111, 0, none⟩) (Kd.R_types HO105.out BK111.out (by decide)) (fun _ hk => hk.2) (.int .i64 (rd l0 0))) (fun _ hk => hk.2) (.slice Ao16 y103.length co16)) (fun _ hk => hk.1)⟩, ⟨by (with_reducible repeat (first | refine blk_drewN ?_ _ | refine blk_drew ?_ | refine blk_alloc ?_ _)); refine blk_far ?_ NB101_111.out _; (with_reducible repeat (first | refine blk_drewN ?_ _ | refine blk_drew ?_ | refine blk_alloc ?_ _)); refine blk_far ?_ NB101_111.out _; (with_reducible repeat (first | refine blk_drewN ?_ _ | refine blk_drew ?_ | refine blk_alloc ?_ _)); exact BK101.out⟩, ⟨by (with_reducible repeat (first | refine blk_drewN ?_ _ | refine blk_drew ?_ | refine blk_alloc ?_ _)); refine blk_put (cs := #[.int .i64 (rd l0 0), .slice none 0 0]) ?_ 1 _ rfl; (with_reducible repeat (first | refine blk_drewN ?_ _ | refine blk_drew ?_ | refine blk_alloc ?_ _)); refine blk_put (cs := #[.int .i64 0, .slice none 0 0]) ?_ 0 _ rfl; (with_reducible repeat (first | refine blk_drewN ?_ _ | refine blk_drew ?_ | refine blk_alloc ?_ _)); exact BK111.out⟩, ⟨by repeat (first | exact HB.out | apply below_alloc | apply pw_below_drewN | apply below_drew1 | refine below_set ?_ GE101.out | refine below_set ?_ GE111.out)⟩⟩
 clear H'
 try clear c1
 try clear c4
 try clear c4b0
 try clear c4b1
 try clear c5
 try clear c5b0
 try clear c5b1
 try clear c6
 try clear c6b0
 try clear c6b1
 try clear c7
 try clear c7b0
 try clear c7b1
 try clear c10
 try clear q10
 try clear hcz20_0
 try clear hcz20_1
 try clear hfz20_0
 try clear hfz20_1
 try clear hx102_0
 try clear p102
 try clear q10
 try clear q102
 obtain ⟨x6_1, x25_1, x112001_1, u112001, rfl, HA, HK1, HO_6, HO_112001, BK101, BK111, HB⟩ := hrel
 cases gk with
 | zero => exact absurd HA.out (by simp [famN.l0])
 | succ k1 =>
  have H := HA.out
  clear HA
  simp only [famN.l0] at H
  by_cases c21 : x25_1 < (l1_1.length : Int)
  rotate_left
  ·
   rw [if_neg c21] at H
   have c21b0 : decide (x25_1 < (l1_1.length : Int)) = false := decide_eq_false c21
   clear c21
   simp only [Option.some.injEq, Prod.mk.injEq] at H
   obtain ⟨rfl, rfl⟩ := H
   obtain ⟨Ao, co, eo⟩ := Kd.R_slice HO_112001.out
   subst eo
   have HBW2 := Aside0.mk (below_then HBW.out HBW.out.size HB.out)
   have BR := Aside0.mk (blk_below HBR.out HB.out)
   have HE := Aside0.mk (Kd.S_elder' HRS.out (Kd.R_base HO_112001.out) HB.out)
   have y0 : wr.cell? ⟨gr, 0, none⟩ = some v := (blk_cell BR.out 0).trans rfl
   have y1 : wr.cell? ⟨gb111, 0, none⟩ = some (.int .i64 (rd l0 0)) := (blk_cell BK111.out 0).trans rfl
   have y2 : wr.cell? ⟨gb111, 1, none⟩ = some (.slice Ao x112001_1.length co) := (blk_cell BK111.out 1).trans rfl
   go_wp2_with (first | ((with_reducible refine gate_builtin (b := .append) (xs := #[.tmp 71, .tmp 73]) rfl ?_); at_builtin; refine Kd.S_append k87 (w0 := w0) w0.heap.size rfl (.tmp 71) (.tmp 73) 25 87 (.agg #[(.int .i64 0), (.slice none 0 0)]) 32 rfl Try.underlying25 info87 rfl (by decide) (by omega) v rows (⟨rd l0 0, x112001_1⟩ : S87) [.int .i64 (rd l0 0), .slice Ao x112001_1.length co] okr (fun k_ => some k_ = (.slice Ao x112001_1.length co : Value).ownBlock) rfl rfl ?aP ?aK ?aF ?aO ?aB ?aS ?aL ?_; (case aP => exact k87_mkM _ _ _ (⟨rd l0 0, x112001_1⟩ : S87) (Kd.R_tight rfl (Kd.R_lower HO_112001.out HBW.out.size))); (case aK => exact fun k_ hk_ => ⟨HFR.out k_ (Kd.R_base HO_112001.out k_ hk_.symm), fun e_ => by have h1 := Kd.R_base HO_112001.out k_ hk_.symm; have h2 := Kd.S_lt HRS.out k_ e_.symm; omega⟩); (case aF => exact fun k_ hk => HFR.out k_ (Nat.le_trans HB.out.size hk)); (case aO => exact Kd.S_mono HE.out (fun k_ hk => ⟨hk.1, fun e_ => hk.2 e_⟩)); (case aB => exact HBW2.out); (case aS => exact HBW2.out.size); (case aL => have := HRL.out; omega); intro v1 w30 ho hb hg hat; (obtain ⟨nl_, Av_, cv_, rfl⟩ : ∃ (nl_ : Nat) (Av_ : Option Addr) (cv_ : Nat), v1 = .slice Av_ nl_ cv_ := by obtain ⟨A_, c_, e_⟩ := Kd.S_slice ho; exact ⟨_, A_, c_, e_⟩); have HO30 := Aside0.mk ho; have HB30 := Aside0.mk hb; have HG30 := Aside0.mk hg; have BR2 := Aside0.mk (blk_grown BR.out hg (Kd.S_ne HE.out BR.out (by decide))); have y3 : w30.cell? ⟨gr, 0, none⟩ = some v := (blk_cell BR2.out 0).trans rfl; have f3 := blk_frozen BR2.out 0; clear ho hb hg hat y0 y1 y2))
   refine bodyPost_end (results_none rfl _ _ _) rfl ?_
   refine ⟨rfl, _, blk_put (cs := #[v]) BR2.out 0 _ rfl, Kd.S_set HO30.out BR2.out (by decide) 0 _, below_set HB30.out HGR.out, ?_⟩
   intro g cs t hg0 hne ht
   exact blk_far (blk_grown (blk_below hg0 HB.out) HG30.out (Kd.S_ne HE.out (blk_below hg0 HB.out) (Ne.symm ht))) hne _
  rw [if_pos c21] at H
  have c21b0 : decide (x25_1 < (l1_1.length : Int)) = true := decide_eq_true c21
  clear c21
  by_cases c22 : 0 ≤ x25_1
  rotate_left
  ·
   rw [if_neg c22] at H
   exact absurd H (by simp)
  rw [if_pos c22] at H
  have c22b0 : decide (0 ≤ x25_1) = true := decide_eq_true c22
  clear c22
  by_cases c23 : x25_1 < (l1_1.length : Int)
  rotate_left
  ·
   rw [if_neg c23] at H
   exact absurd H (by simp)
  rw [if_pos c23] at H
  have c23b0 : decide (x25_1 < (l1_1.length : Int)) = true := decide_eq_true c23
  clear c23
  have H' := Aside0.mk H
  clear H
  have p112 : 0 ≤ (x25_1 : Int) := of_decide_eq_true (by first | (with_reducible assumption) | assumption)
  have q112 : x25_1 < (l1_1.length : Int) := of_decide_eq_true (by first | (with_reducible assumption) | assumption)
  obtain ⟨ad112, A112_0, c112_0, e112, hx112_0, hl112_0, hi112_0⟩ := at_L1 HR1_1.out x25_1 p112 q112
  cases e112
  replace hx112_0 := (HB.out.cell (World.block_lt_of_cell? w _ hx112_0)).trans hx112_0
  have HR112_0 := Aside0.mk hi112_0
  have HC112_0 := Aside0.mk hl112_0
  clear hi112_0 hl112_0
  replace p112 := eq_true p112
  replace q112 := eq_true q112
  have hnb24 := NB111_101.out
  have hnc24 := NB101_111.out
  have hcz25_0 : wr.cell? ⟨gb111, 0, none⟩ = some (.int .i64 (rd l0 0)) := (blk_cell BK111.out 0).trans rfl
  have hcz25_1 : wr.cell? ⟨gb111, 1, none⟩ = some (u112001) := (blk_cell BK111.out 1).trans rfl
  have hfz25_0 := blk_frozen BK111.out 0
  have hfz25_1 := blk_frozen BK111.out 1
  go_wp2
  go_loopg [6, 9, 33] k1 (fun kq v6 v9 v33 w' => ∃ (x6_2 : List Int) (x9_2 : Int) (x33_2 : Int) (x112001_2 : List Int) (u112001 : Value), v9 = .int .i64 x9_2 ∧ v33 = .int .i64 x33_2 ∧ Aside0 (famN.l1 kq a2 x6_2 (rd_L1 l1_1 x25_1) x9_2 l1_1 (l1_1.length : Int) x25_1 (rd_L1 l1_1 x25_1) ((rd_L1 l1_1 x25_1).length : Int) x33_2 (rd l0 0) x112001_2 = some (r1, r2)) ∧ Aside0 (kq ≤ k1) ∧ Aside0 (Kd.V (Kd.int .i64) 2 w' w.heap.size (fun k_ => (P0_ k_ ∨ w.heap.size ≤ k_) ∧ some k_ ≠ (u112001 : Value).ownBlock ∧ k_ ≠ gb101 ∧ k_ ≠ gb111) v6 x6_2) ∧ Aside0 (Kd.R (Kd.int .i64) 2 w' w.heap.size (fun k_ => (w.heap.size ≤ k_)) u112001 x112001_2) ∧ Aside0 (w'.heap[gb101]? = some (.cells #[.int .i64 a1_0, (.slice (some ad112) l1_1.length c1_1)] 58 (0, 0))) ∧ Aside0 (w'.heap[gb111]? = some (.cells #[.int .i64 (rd l0 0), u112001] 87 (0, 0))) ∧ Aside0 (Below w.heap.size w w'))
  case atStart => exact ⟨(x6_1), ((rd l0 0)), (0), (x112001_1), (u112001), rfl, rfl, H', ⟨Nat.le_refl _⟩, ⟨HO_6.out⟩, ⟨HO_112001.out⟩, ⟨BK101.out⟩, ⟨BK111.out⟩, ⟨HB.out⟩⟩
  clear H'
  try clear c1
  try clear c4
  try clear c4b0
  try clear c4b1
  try clear c5
  try clear c5b0
  try clear c5b1
  try clear c6
  try clear c6b0
  try clear c6b1
  try clear c7
  try clear c7b0
  try clear c7b1
  try clear c10
  try clear q10
  try clear c21
  try clear c21b0
  try clear c22
  try clear c22b0
  try clear c23
  try clear c23b0
  try clear hcz20_0
  try clear hcz20_1
  try clear hcz25_0
  try clear hcz25_1
  try clear hfz20_0
  try clear hfz20_1
  try clear hfz25_0
  try clear hfz25_1
  try clear hx102_0
  try clear hx112_0
  try clear p102
  try clear p112
  try clear q10
  try clear q102
  try clear q112
  obtain ⟨x6_2, x9_2, x33_2, x112001_2, u112001, rfl, rfl, HA, HK2, HO_6, HO_112001, BK101, BK111, HB⟩ := hrel
  cases gk with
  | zero => exact absurd HA.out (by simp [famN.l1])
  | succ k2 =>
   have H := HA.out
   clear HA
   simp only [famN.l1] at H
   by_cases c26 : x33_2 < ((rd_L1 l1_1 x25_1).length : Int)
   rotate_left
   ·
    rw [if_neg c26] at H
    have c26b0 : decide (x33_2 < ((rd_L1 l1_1 x25_1).length : Int)) = false := decide_eq_false c26
    clear c26
    have H' := Aside0.mk H
    clear H
    go_wp2
    go_roundg k2
    case measure => have := HK1.out; have := HK2.out; omega
    case rel => exact ⟨(x6_2), (wrap64 (x25_1 + 1)), (x112001_2), (u112001), rfl, H', ⟨by have := HK1.out; have := HK2.out; omega⟩, ⟨HO_6.out⟩, ⟨HO_112001.out⟩, ⟨BK101.out⟩, ⟨BK111.out⟩, ⟨HB.out⟩⟩
   rw [if_pos c26] at H
   have c26b0 : decide (x33_2 < ((rd_L1 l1_1 x25_1).length : Int)) = true := decide_eq_true c26
   clear c26
   by_cases c27 : 0 ≤ x33_2
   rotate_left
   ·
    rw [if_neg c27] at H
    exact absurd H (by simp)
   rw [if_pos c27] at H
   have c27b0 : decide (0 ≤ x33_2) = true := decide_eq_true c27
   clear c27
   by_cases c28 : x33_2 < ((rd_L1 l1_1 x25_1).length : Int)
   rotate_left
   ·
    rw [if_neg c28] at H
    exact absurd H (by simp)
   rw [if_pos c28] at H
   have c28b0 : decide (x33_2 < ((rd_L1 l1_1 x25_1).length : Int)) = true := decide_eq_true c28
   clear c28
   by_cases c29 : x33_2 < (wrap64 (((rd_L1 l1_1 x25_1).length : Int) - 1))
   rotate_left
   ·
    rw [if_neg c29] at H
    have c29b0 : decide (x33_2 < (wrap64 (((rd_L1 l1_1 x25_1).length : Int) - 1))) = false := decide_eq_false c29
    clear c29
    by_cases c42 : 0 ≤ (rd (rd_L1 l1_1 x25_1) x33_2)
    rotate_left
    ·
     rw [if_neg c42] at H
     exact absurd H (by simp)
    rw [if_pos c42] at H
    have c42b0 : decide (0 ≤ (rd (rd_L1 l1_1 x25_1) x33_2)) = true := decide_eq_true c42
    clear c42
    by_cases c43 : (rd (rd_L1 l1_1 x25_1) x33_2) < (x112001_2.length : Int)
    rotate_left
    ·
     rw [if_neg c43] at H
     exact absurd H (by simp)
    rw [if_pos c43] at H
    have c43b0 : decide ((rd (rd_L1 l1_1 x25_1) x33_2) < (x112001_2.length : Int)) = true := decide_eq_true c43
    clear c43
    obtain ⟨y123, hy123⟩ : ∃ y_ : List Int, y_ = (x112001_2.set ((rd (rd_L1 l1_1 x25_1) x33_2) : Int).toNat (wrap64 ((wrap64 ((rd x112001_2 (rd (rd_L1 l1_1 x25_1) x33_2)) * a2)) + x9_2))) := ⟨_, rfl⟩
    replace H : (famN.l1 k2 a2 x6_2 (rd_L1 l1_1 x25_1) x9_2 l1_1 (l1_1.length : Int) x25_1 (rd_L1 l1_1 x25_1) ((rd_L1 l1_1 x25_1).length : Int) (wrap64 (x33_2 + 1)) (rd l0 0) y123) = some (r1, r2) := by first | (rw [hy123]; with_reducible exact H) | (have H2_ := (Option.bind_some _ _).symm.trans H; rw [hy123]; with_reducible exact H2_) | (have H2_ := (Option.bind_some _ _).symm.trans H; with_reducible exact H2_) | with_reducible exact H | (rw [hy123]; exact H) | exact H
    have Ny123 := Aside0.mk hy123
    clear hy123
    have H' := Aside0.mk H
    clear H
    have p113 : 0 ≤ (x33_2 : Int) := of_decide_eq_true (by first | (with_reducible assumption) | assumption)
    have q113 : x33_2 < ((rd_L1 l1_1 x25_1).length : Int) := of_decide_eq_true (by first | (with_reducible assumption) | assumption)
    obtain ⟨ad113, e113, hx113_0⟩ := Kd.at_int HR112_0.out x33_2 p113 q113
    cases e113
    replace hx113_0 := (HB.out.cell (World.block_lt_of_cell? w _ hx113_0)).trans hx113_0
    replace p113 := eq_true p113
    replace q113 := eq_true q113
    have hxs_ := (HB.out.cell (World.block_lt_of_cell? w _ HXS.out)).trans HXS.out
    try go_wp2
    have n0_ := Aside0.mk (Kd.V_drew HO_6.out)
    have n1_ := Aside0.mk (Kd.R_drew HO_112001.out)
    have n2_ := Aside0.mk (blk_drew BK101.out)
    have n3_ := Aside0.mk (blk_drew BK111.out)
    have n4_ := Aside0.mk (below_drew1 HB.out)
    clear HO_6
    clear HO_112001
    clear BK101
    clear BK111
    clear HB
    have HO_6 := n0_
    have HO_112001 := n1_
    have BK101 := n2_
    have BK111 := n3_
    have HB := n4_
    clear n0_ n1_ n2_ n3_ n4_
    obtain ⟨Ao46, co46, eo46⟩ := Kd.R_slice HO_112001.out
    (first | subst eo46 | (injection eo46 with f1_ f2_ f3_; have f4_ := f1_.symm; have f5_ := f3_.symm; clear f1_ f2_ f3_; subst f4_; subst f5_))
    have p122 : 0 ≤ ((rd (rd_L1 l1_1 x25_1) x33_2) : Int) := of_decide_eq_true (by first | (with_reducible assumption) | assumption)
    have q122 : (rd (rd_L1 l1_1 x25_1) x33_2) < (x112001_2.length : Int) := of_decide_eq_true (by first | (with_reducible assumption) | assumption)
    obtain ⟨ad122, e122, hx122_0⟩ := Kd.at_int (Kd.R_reads' HO_112001.out).2.2 (rd (rd_L1 l1_1 x25_1) x33_2) p122 q122
    cases e122
    replace p122 := eq_true p122
    replace q122 := eq_true q122
    have p44 : 0 ≤ ((rd (rd_L1 l1_1 x25_1) x33_2) : Int) := of_decide_eq_true (by first | (with_reducible assumption) | assumption)
    have q44 : ((rd (rd_L1 l1_1 x25_1) x33_2) : Int) < ((x112001_2.length : Int) : Int) := of_decide_eq_true (by first | (with_reducible assumption) | assumption)
    obtain ⟨go44, co44, eo44, gb44, gl44, cl44, HG44⟩ := Kd.R_form HO_112001.out (by omega)
    (first | cases eo44 | (injection eo44 with ea_ en_ ec_; (first | subst ea_ | (injection ea_ with ea_; subst ea_)); subst ec_; clear en_))
    have GB44 := Aside0.mk gb44
    have GG44 := Aside0.mk HG44
    clear gb44 gl44 HG44
    (first | simp only [add_plain] at hx122_0 | skip)
    obtain ⟨hx44_0, hf44_0⟩ := Kd.R_celln 0 HO_112001.out ((rd (rd_L1 l1_1 x25_1) x33_2) : Int) p44 q44
    replace p44 := eq_true p44
    replace q44 := eq_true q44
    have HP47 := Kd.R_putn HO_112001.out ((rd (rd_L1 l1_1 x25_1) x33_2) : Int) (wrap64 ((wrap64 ((rd x112001_2 (rd (rd_L1 l1_1 x25_1) x33_2)) * a2)) + x9_2))
    rw [← Ny123.out] at HP47
    have HQ47 := Aside0.mk HP47
    clear HP47
    refine start_ (n := 14) (S := fun w' => w'.cell? ⟨gb111, 0, none⟩ = some (.int .i64 (rd l0 0)) ∧ w'.cell? ⟨gb111, 1, none⟩ = some (.slice (some ⟨go44, 0, none⟩) x112001_2.length co46) ∧ w'.cell? ⟨go44, ((rd (rd_L1 l1_1 x25_1) x33_2)).toNat, none⟩ = some (.int .i64 (rd x112001_2 (rd (rd_L1 l1_1 x25_1) x33_2))) ∧ w'.cell? ⟨gs, 0, none⟩ = some (.int .i64 a2)) (ds := [13]) #[false, false, false, false, false, false, false, false, false, false, false, false, false, false] (by kernel_rfl) rfl rfl ⟨(blk_cell BK111.out 0).trans rfl, (blk_cell BK111.out 1).trans rfl, hx122_0, (HB.out.cell (World.block_lt_of_cell? w _ HXS.out)).trans HXS.out⟩ (fun hHeld => ?_); refine with_tabW famN.tab12 famN.bits12 (fun HT_ HW_ => ?_)
    generalize wr.drew = w45 at HO_6 HO_112001 BK101 BK111 HB GG44 HQ47 hf44_0 hx122_0 hx44_0 hHeld ⊢
    refine pure_ (i := 0) (N := some 56) (v := ?_) (a' := ?_) #[true, false, false, false, false, false, false, false, false, false, false, false, false, false] rfl rfl (any_of HT_.out (by kernel_rfl)) (fun _ _ _ h => h) (Or.inl ⟨by rfl, ?_⟩) ?_ ?_
    rotate_left
    ·
     intro w'
     go_simp
     with_reducible rfl
    rotate_left
    ·
     simp only [Act.put, List.setIfInBounds_toArray, List.set_cons_zero, List.set_cons_succ, i64_w, i32_w]
     rfl
    refine pure_ (i := 2) (N := some 58) (v := ?_) (a' := ?_) #[true, false, true, false, false, false, false, false, false, false, false, false, false, false] rfl rfl (any_of HT_.out (by kernel_rfl)) (fun _ _ _ h => h) (Or.inl ⟨by rfl, ?_⟩) ?_ ?_
    rotate_left
    ·
     intro w'
     go_simp
     with_reducible rfl
    rotate_left
    ·
     simp only [Act.put, List.setIfInBounds_toArray, List.set_cons_zero, List.set_cons_succ, i64_w, i32_w]
     rfl
    refine pure_ (i := 3) (N := some 59) (v := ?_) (a' := ?_) #[true, false, true, true, false, false, false, false, false, false, false, false, false, false] rfl rfl (any_of HT_.out (by kernel_rfl)) (fun _ _ _ h => h) (Or.inl ⟨by rfl, ?_⟩) ?_ ?_
    rotate_left
    ·
     intro w'
     go_simp
     with_reducible rfl
    rotate_left
    ·
     simp only [Act.put, List.setIfInBounds_toArray, List.set_cons_zero, List.set_cons_succ, i64_w, i32_w]
     rfl
    refine pure_ (i := 5) (N := some 61) (v := ?_) (a' := ?_) #[true, false, true, true, false, true, false, false, false, false, false, false, false, false] rfl rfl (any_of HT_.out (by kernel_rfl)) (fun _ _ _ h => h) (Or.inl ⟨by rfl, ?_⟩) ?_ ?_
    rotate_left
    ·
     intro w'
     go_simp
     with_reducible rfl
    rotate_left
    ·
     simp only [Act.put, List.setIfInBounds_toArray, List.set_cons_zero, List.set_cons_succ, i64_w, i32_w]
     rfl
    refine take_ (i := 8) (N := some 64) (v := ?_) (a' := ?_) #[true, false, true, true, false, true, false, false, true, false, false, false, false, false] rfl rfl (take_ofW HT_.out HW_.out (by kernel_rfl)) (fun _ _ _ h => h) (Or.inl ⟨by rfl, ?_⟩) hHeld ?_ ?_
    rotate_left
    ·
     rintro w' ⟨s0, s1, s2, s3⟩
     go_simp
     with_reducible rfl
    rotate_left
    ·
     simp only [Act.put, List.setIfInBounds_toArray, List.set_cons_zero, List.set_cons_succ, i64_w, i32_w]
     rfl
    refine pure_ (i := 10) (N := some 66) (v := ?_) (a' := ?_) #[true, false, true, true, false, true, false, false, true, false, true, false, false, false] rfl rfl (any_of HT_.out (by kernel_rfl)) (fun _ _ _ h => h) (Or.inl ⟨by rfl, ?_⟩) ?_ ?_
    rotate_left
    ·
     intro w'
     go_simp
     with_reducible rfl
    rotate_left
    ·
     simp only [Act.put, List.setIfInBounds_toArray, List.set_cons_zero, List.set_cons_succ, i64_w, i32_w]
     rfl
    refine take_ (i := 1) (N := some 57) (v := ?_) (a' := ?_) #[true, true, true, true, false, true, false, false, true, false, true, false, false, false] rfl rfl (take_ofW HT_.out HW_.out (by kernel_rfl)) (fun _ _ _ h => h) (Or.inl ⟨by rfl, ?_⟩) hHeld ?_ ?_
    rotate_left
    ·
     rintro w' ⟨s0, s1, s2, s3⟩
     go_simp
     with_reducible rfl
    rotate_left
    ·
     simp only [Act.put, List.setIfInBounds_toArray, List.set_cons_zero, List.set_cons_succ, i64_w, i32_w]
     rfl
    refine take_ (i := 4) (N := some 60) (v := ?_) (a' := ?_) #[true, true, true, true, true, true, false, false, true, false, true, false, false, false] rfl rfl (take_ofW HT_.out HW_.out (by kernel_rfl)) (fun _ _ _ h => h) (Or.inl ⟨by rfl, ?_⟩) hHeld ?_ ?_
    rotate_left
    ·
     rintro w' ⟨s0, s1, s2, s3⟩
     go_simp
     with_reducible rfl
    rotate_left
    ·
     simp only [Act.put, List.setIfInBounds_toArray, List.set_cons_zero, List.set_cons_succ, i64_w, i32_w]
     rfl
    refine pure_ (i := 6) (N := some 62) (v := ?_) (a' := ?_) #[true, true, true, true, true, true, true, false, true, false, true, false, false, false] rfl rfl (any_of HT_.out (by kernel_rfl)) (fun _ _ _ h => h) (Or.inl ⟨by rfl, ?_⟩) ?_ ?_
    rotate_left
    ·
     intro w'
     go_simp
     with_reducible rfl
    rotate_left
    ·
     simp only [Act.put, List.setIfInBounds_toArray, List.set_cons_zero, List.set_cons_succ, i64_w, i32_w]
     rfl
    refine take_ (i := 7) (N := some 63) (v := ?_) (a' := ?_) #[true, true, true, true, true, true, true, true, true, false, true, false, false, false] rfl rfl (take_ofW HT_.out HW_.out (by kernel_rfl)) (fun _ _ _ h => h) (Or.inl ⟨by rfl, ?_⟩) hHeld ?_ ?_
    rotate_left
    ·
     rintro w' ⟨s0, s1, s2, s3⟩
     go_simp
     with_reducible rfl
    rotate_left
    ·
     simp only [Act.put, List.setIfInBounds_toArray, List.set_cons_zero, List.set_cons_succ, i64_w, i32_w]
     rfl
    refine pure_ (i := 9) (N := some 65) (v := ?_) (a' := ?_) #[true, true, true, true, true, true, true, true, true, true, true, false, false, false] rfl rfl (any_of HT_.out (by kernel_rfl)) (fun _ _ _ h => h) (Or.inl ⟨by rfl, ?_⟩) ?_ ?_
    rotate_left
    ·
     intro w'
     go_simp
     with_reducible rfl
    rotate_left
    ·
     simp only [Act.put, List.setIfInBounds_toArray, List.set_cons_zero, List.set_cons_succ, i64_w, i32_w]
     rfl
    refine pure_ (i := 11) (N := some 67) (v := ?_) (a' := ?_) #[true, true, true, true, true, true, true, true, true, true, true, true, false, false] rfl rfl (any_of HT_.out (by kernel_rfl)) (fun _ _ _ h => h) (Or.inl ⟨by rfl, ?_⟩) ?_ ?_
    rotate_left
    ·
     intro w'
     go_simp
     with_reducible rfl
    rotate_left
    ·
     simp only [Act.put, List.setIfInBounds_toArray, List.set_cons_zero, List.set_cons_succ, i64_w, i32_w]
     rfl
    refine pure_ (i := 12) (N := some 68) (v := ?_) (a' := ?_) #[true, true, true, true, true, true, true, true, true, true, true, true, true, false] rfl rfl (any_of HT_.out (by kernel_rfl)) (fun _ _ _ h => h) (Or.inl ⟨by rfl, ?_⟩) ?_ ?_
    rotate_left
    ·
     intro w'
     go_simp
     with_reducible rfl
    rotate_left
    ·
     simp only [Act.put, List.setIfInBounds_toArray, List.set_cons_zero, List.set_cons_succ, i64_w, i32_w]
     rfl
    refine last_ (i := 13) (N := none) #[true, true, true, true, true, true, true, true, true, true, true, true, true, true] rfl rfl (one_of HT_.out (by kernel_rfl)) (by decide) (fun K hK => ?_)
    refine skip_ (w1 := ?_) (by rfl) rfl ?_ ?_
    rotate_left
    ·
     go_simp
     rfl
    refine hK.out _ _ ?_
    clear hK K
    refine done_ (done_of HT_.out (by kernel_rfl)) ?_
    have hxs_ := (HB.out.cell (World.block_lt_of_cell? w _ HXS.out)).trans HXS.out
    try go_wp2
    go_roundg k2
    case measure => have := HK1.out; have := HK2.out; omega
    case rel => exact ⟨(x6_2), (x9_2), (wrap64 (x33_2 + 1)), (y123), (.slice (some ⟨go44, 0, none⟩) x112001_2.length co46), rfl, rfl, H', ⟨by have := HK1.out; have := HK2.out; omega⟩, ⟨by (with_reducible repeat (first | apply Kd.V_alloc | apply Kd.V_drewN | apply Kd.V_drew)); exact Kd.V_mono (Kd.V_far (p := ⟨go44, ((rd (rd_L1 l1_1 x25_1) x33_2) : Int).toNat, none⟩) (Kd.V_mono HO_6.out (fun k_ hk => (⟨hk, fun e_ => hk.2.1 (by rw [e_]; rfl)⟩ : _ ∧ k_ ≠ go44))) (fun _ hk => hk.2) (.int .i64 (wrap64 ((wrap64 ((rd x112001_2 (rd (rd_L1 l1_1 x25_1) x33_2)) * a2)) + x9_2)))) (fun _ hk => ⟨hk.1.1, ⟨hk.1.2.1, ⟨hk.1.2.2.1, hk.1.2.2.2⟩⟩⟩)⟩, ⟨by (with_reducible repeat (first | apply Kd.R_alloc | apply Kd.R_drewN | apply Kd.R_drew)); exact HQ47.out⟩, ⟨by (with_reducible repeat (first | refine blk_drewN ?_ _ | refine blk_drew ?_ | refine blk_alloc ?_ _)); refine blk_far ?_ (by have h_ := Kd.R_ne HO_112001.out BK101.out (by decide); intro e_; exact h_ (by rw [e_]; rfl)) _; (with_reducible repeat (first | refine blk_drewN ?_ _ | refine blk_drew ?_ | refine blk_alloc ?_ _)); exact BK101.out⟩, ⟨by (with_reducible repeat (first | refine blk_drewN ?_ _ | refine blk_drew ?_ | refine blk_alloc ?_ _)); refine blk_far ?_ (by have h_ := Kd.R_ne HO_112001.out BK111.out (by decide); intro e_; exact h_ (by rw [e_]; rfl)) _; (with_reducible repeat (first | refine blk_drewN ?_ _ | refine blk_drew ?_ | refine blk_alloc ?_ _)); exact BK111.out⟩, ⟨by repeat (first | exact HB.out | apply below_alloc | apply pw_below_drewN | apply below_drew1 | refine below_set ?_ GB44.out | refine below_set ?_ GE101.out | refine below_set ?_ GE111.out)⟩⟩
   rw [if_pos c29] at H
   have c29b0 : decide (x33_2 < (wrap64 (((rd_L1 l1_1 x25_1).length : Int) - 1))) = true := decide_eq_true c29
   clear c29
   by_cases c30 : 0 < (x6_2.length : Int)
   rotate_left
   ·
    rw [if_neg c30] at H
    exact absurd H (by simp)
   rw [if_pos c30] at H
   have c30b0 : decide (0 < (x6_2.length : Int)) = true := decide_eq_true c30
   have c30b1 : decide (0 < x6_2.length) = true := decide_eq_true (by omega)
   clear c30
   by_cases c31 : 1 ≤ (x6_2.length : Int)
   rotate_left
   ·
    rw [if_neg c31] at H
    exact absurd H (by simp)
   rw [if_pos c31] at H
   have c31b0 := eq_true c31
   have c31b1 : decide (1 ≤ (x6_2.length : Int)) = true := decide_eq_true c31
   clear c31
   obtain ⟨y115, hy115⟩ : ∃ y_ : List Int, y_ = (x6_2.drop 1) := ⟨_, rfl⟩
   replace H : (if a2 = 0 then (none) else (if 0 ≤ (rd (rd_L1 l1_1 x25_1) x33_2) then (if (rd (rd_L1 l1_1 x25_1) x33_2) < (x112001_2.length : Int) then (famN.l1 k2 a2 y115 (rd_L1 l1_1 x25_1) (Int.tmod (wrap64 ((wrap64 (x9_2 - (rd x6_2 0))) + a2)) a2) l1_1 (l1_1.length : Int) x25_1 (rd_L1 l1_1 x25_1) ((rd_L1 l1_1 x25_1).length : Int) (wrap64 (x33_2 + 1)) (rd l0 0) (x112001_2.set ((rd (rd_L1 l1_1 x25_1) x33_2) : Int).toNat (wrap64 ((wrap64 ((rd x112001_2 (rd (rd_L1 l1_1 x25_1) x33_2)) * a2)) + (rd x6_2 0))))) else (none)) else (none))) = some (r1, r2) := by first | (rw [hy115]; with_reducible exact H) | (have H2_ := (Option.bind_some _ _).symm.trans H; rw [hy115]; with_reducible exact H2_) | (have H2_ := (Option.bind_some _ _).symm.trans H; with_reducible exact H2_) | with_reducible exact H | (rw [hy115]; exact H) | exact H
   have Ny115 := Aside0.mk hy115
   clear hy115
   by_cases c32 : a2 = 0
   ·
    rw [if_pos c32] at H
    exact absurd H (by simp)
   rw [if_neg c32] at H
   have c32b0 : (a2 == 0) = false := beq_eq_false_iff_ne.mpr c32
   have c32b1 : (a2 != 0) = true := bne_iff_ne.mpr c32
   by_cases c33 : 0 ≤ (rd (rd_L1 l1_1 x25_1) x33_2)
   rotate_left
   ·
    rw [if_neg c33] at H
    exact absurd H (by simp)
   rw [if_pos c33] at H
   have c33b0 : decide (0 ≤ (rd (rd_L1 l1_1 x25_1) x33_2)) = true := decide_eq_true c33
   clear c33
   by_cases c34 : (rd (rd_L1 l1_1 x25_1) x33_2) < (x112001_2.length : Int)
   rotate_left
   ·
    rw [if_neg c34] at H
    exact absurd H (by simp)
   rw [if_pos c34] at H
   have c34b0 : decide ((rd (rd_L1 l1_1 x25_1) x33_2) < (x112001_2.length : Int)) = true := decide_eq_true c34
   clear c34
   obtain ⟨y121, hy121⟩ : ∃ y_ : List Int, y_ = (x112001_2.set ((rd (rd_L1 l1_1 x25_1) x33_2) : Int).toNat (wrap64 ((wrap64 ((rd x112001_2 (rd (rd_L1 l1_1 x25_1) x33_2)) * a2)) + (rd x6_2 0)))) := ⟨_, rfl⟩
   replace H : (famN.l1 k2 a2 y115 (rd_L1 l1_1 x25_1) (Int.tmod (wrap64 ((wrap64 (x9_2 - (rd x6_2 0))) + a2)) a2) l1_1 (l1_1.length : Int) x25_1 (rd_L1 l1_1 x25_1) ((rd_L1 l1_1 x25_1).length : Int) (wrap64 (x33_2 + 1)) (rd l0 0) y121) = some (r1, r2) := by first | (rw [hy121]; with_reducible exact H) | (have H2_ := (Option.bind_some _ _).symm.trans H; rw [hy121]; with_reducible exact H2_) | (have H2_ := (Option.bind_some _ _).symm.trans H; with_reducible exact H2_) | with_reducible exact H | (rw [hy121]; exact H) | exact H
   have Ny121 := Aside0.mk hy121
   clear hy121
   have H' := Aside0.mk H
   clear H
   have p113 : 0 ≤ (x33_2 : Int) := of_decide_eq_true (by first | (with_reducible assumption) | assumption)
   have q113 : x33_2 < ((rd_L1 l1_1 x25_1).length : Int) := of_decide_eq_true (by first | (with_reducible assumption) | assumption)
   obtain ⟨ad113, e113, hx113_0⟩ := Kd.at_int HR112_0.out x33_2 p113 q113
   cases e113
   replace hx113_0 := (HB.out.cell (World.block_lt_of_cell? w _ hx113_0)).trans hx113_0
   replace p113 := eq_true p113
   replace q113 := eq_true q113
   have hxs_ := (HB.out.cell (World.block_lt_of_cell? w _ HXS.out)).trans HXS.out
   try go_wp2
   have n0_ := Aside0.mk (Kd.V_drew HO_6.out)
   have n1_ := Aside0.mk (Kd.R_drew HO_112001.out)
   have n2_ := Aside0.mk (blk_drew BK101.out)
   have n3_ := Aside0.mk (blk_drew BK111.out)
   have n4_ := Aside0.mk (below_drew1 HB.out)
   clear HO_6
   clear HO_112001
   clear BK101
   clear BK111
   clear HB
   have HO_6 := n0_
   have HO_112001 := n1_
   have BK101 := n2_
   have BK111 := n3_
   have HB := n4_
   clear n0_ n1_ n2_ n3_ n4_
   obtain ⟨Ao37, co37, eo37⟩ := Kd.V_slice HO_6.out
   (first | subst eo37 | (injection eo37 with f1_ f2_ f3_; have f4_ := f1_.symm; have f5_ := f3_.symm; clear f1_ f2_ f3_; subst f4_; subst f5_))
   have p114 : 0 ≤ (0 : Int) := (by omega)
   have q114 : 0 < (x6_2.length : Int) := of_decide_eq_true (by first | (with_reducible assumption) | assumption)
   obtain ⟨ad114, e114, hx114_0⟩ := Kd.at_int (Kd.V_reads' HO_6.out).2.2 0 p114 q114
   cases e114
   have qi114 : (0 < x6_2.length) = True := eq_true (by omega)
   (try rw [show ((0 : Int)).toNat = 0 from rfl] at hx114_0)
   (try rw [Addr.add_zero'] at hx114_0)
   replace p114 := eq_true p114
   replace q114 := eq_true q114
   have q38 : (1 : Int) ≤ ((x6_2.length : Int) : Int) := of_decide_eq_true (by first | (with_reducible assumption) | assumption)
   obtain ⟨i038, hi038, _, hsz38, _⟩ := info_parts info2
   have hroom38 : x6_2.length ≤ co37 := (Kd.V_reads' HO_6.out).2.1
   have hC38 : Kd.F (Kd.int .i64) _ _ (some ad114) x6_2.length x6_2 := (Kd.V_at (base := w.heap.size) HO_6.out).2.2
   have hcut38 := cut_from (P := Try.prog) 22 2 .i64 Try.underlying22 hi038 1 hsz38 (some ad114) x6_2.length co37 1 (by omega) q38
   have hr38 := Kd.F_cut (m := (1 : Int).toNat) (c := co37) hC38 (by omega) hroom38
   obtain ⟨A38, hA38⟩ : ∃ A1, A1 = (if co37 = (1 : Int).toNat then (some ad114) else ((some ad114) : Option Addr).map (·.add ((1 : Int).toNat * 1))) := ⟨_, rfl⟩
   obtain ⟨c38, hc38⟩ : ∃ c1, c1 = co37 - (1 : Int).toNat := ⟨_, rfl⟩
   have hy38 : y115.length = x6_2.length - (1 : Int).toNat := (by rw [Ny115.out, List.length_drop] <;> omega)
   rw [show (x6_2).drop (1 : Int).toNat = y115 from Ny115.out.symm] at hr38
   replace hr38 : Kd.F (Kd.int .i64) _ _ A38 y115.length y115 := (by rw [hA38]; exact hr38)
   rw [← hy38, ← hA38, ← hc38] at hcut38
   have HO119 := Aside0.mk (show Kd.V (Kd.int .i64) 2 _ w.heap.size _ (.slice A38 y115.length c38) y115 from Kd.V_mk (by rw [hy38, hc38]; exact Nat.sub_le_sub_right hroom38 _) hr38)
   have HC119 := Aside0.mk (show y115.length ≤ c38 from by rw [hy38, hc38]; exact Nat.sub_le_sub_right hroom38 _)
   clear hr38 hC38 hroom38 hi038 hsz38 hc38
   have KY38 := Aside0.mk hy38
   have KA38 := Aside0.mk hA38
   clear hy38 hA38
   replace q38 := eq_true q38
   refine start_ (n := 7) (S := fun w' => w'.cell? ad114 = some (.int .i64 (rd x6_2 0))) (ds := []) #[false, false, false, false, false, false, false] (by kernel_rfl) rfl rfl (hx114_0) (fun hHeld => ?_)
   generalize wr.drew = w36 at HO_6 HO_112001 BK101 BK111 HB HO119 hx114_0 hHeld ⊢
   refine pure_ (i := 0) (N := some 44) (v := ?_) (a' := ?_) #[true, false, false, false, false, false, false] rfl rfl (by kernel_rfl) (fun _ _ _ h => h) (Or.inl ⟨by rfl, ?_⟩) ?_ ?_
   rotate_left
   ·
    intro w'
    go_simp
    with_reducible rfl
   rotate_left
   ·
    simp only [Act.put, List.setIfInBounds_toArray, List.set_cons_zero, List.set_cons_succ, i64_w, i32_w]
    rfl
   refine pure_ (i := 1) (N := some 45) (v := ?_) (a' := ?_) #[true, true, false, false, false, false, false] rfl rfl (by kernel_rfl) (fun _ _ _ h => h) (Or.inl ⟨by rfl, ?_⟩) ?_ ?_
   rotate_left
   ·
    intro w'
    go_simp
    with_reducible rfl
   rotate_left
   ·
    simp only [Act.put, List.setIfInBounds_toArray, List.set_cons_zero, List.set_cons_succ, i64_w, i32_w]
    rfl
   refine pure_ (i := 3) (N := some 47) (v := ?_) (a' := ?_) #[true, true, false, true, false, false, false] rfl rfl (by kernel_rfl) (fun _ _ _ h => h) (Or.inl ⟨by rfl, ?_⟩) ?_ ?_
   rotate_left
   ·
    intro w'
    go_simp
    with_reducible rfl
   rotate_left
   ·
    simp only [Act.put, List.setIfInBounds_toArray, List.set_cons_zero, List.set_cons_succ, i64_w, i32_w]
    rfl
   refine pure_ (i := 4) (N := some 48) (v := ?_) (a' := ?_) #[true, true, false, true, true, false, false] rfl rfl (by kernel_rfl) (fun _ _ _ h => h) (Or.inl ⟨by rfl, ?_⟩) ?_ ?_
   rotate_left
   ·
    intro w'
    go_simp
    with_reducible rfl
   rotate_left
   ·
    simp only [Act.put, List.setIfInBounds_toArray, List.set_cons_zero, List.set_cons_succ, i64_w, i32_w]
    rfl
   refine take_ (i := 2) (N := some 46) (v := ?_) (a' := ?_) #[true, true, true, true, true, false, false] rfl rfl (by kernel_rfl) (fun _ _ _ h => h) (Or.inl ⟨by rfl, ?_⟩) hHeld ?_ ?_
   rotate_left
   ·
    intro w' s0
    go_simp
    with_reducible rfl
   rotate_left
   ·
    simp only [Act.put, List.setIfInBounds_toArray, List.set_cons_zero, List.set_cons_succ, i64_w, i32_w]
    rfl
   refine pure_ (i := 5) (N := some 12) (v := ?_) (a' := ?_) #[true, true, true, true, true, true, false] rfl rfl (by kernel_rfl) (fun _ _ _ h => h) (Or.inl ⟨by rfl, ?_⟩) ?_ ?_
   rotate_left
   ·
    intro w'
    go_simp
    with_reducible rfl
   rotate_left
   ·
    simp only [Act.put, List.setIfInBounds_toArray, List.set_cons_zero, List.set_cons_succ, i64_w, i32_w]
    rfl
   refine pure_ (i := 6) (N := some 6) (v := ?_) (a' := ?_) #[true, true, true, true, true, true, true] rfl rfl (by kernel_rfl) (fun _ _ _ h => h) (Or.inl ⟨by rfl, ?_⟩) ?_ ?_
   rotate_left
   ·
    intro w'
    go_simp
    with_reducible rfl
   rotate_left
   ·
    simp only [Act.put, List.setIfInBounds_toArray, List.set_cons_zero, List.set_cons_succ, i64_w, i32_w]
    rfl
   refine done_ (by kernel_rfl) ?_
   have hxs_ := (HB.out.cell (World.block_lt_of_cell? w _ HXS.out)).trans HXS.out
   try go_wp2
   have n0_ := Aside0.mk (Kd.V_drew HO_6.out)
   have n1_ := Aside0.mk (Kd.R_drew HO_112001.out)
   have n2_ := Aside0.mk (Kd.V_drew HO119.out)
   have n3_ := Aside0.mk (blk_drew BK101.out)
   have n4_ := Aside0.mk (blk_drew BK111.out)
   have n5_ := Aside0.mk (below_drew1 HB.out)
   clear HO_6
   clear HO_112001
   clear HO119
   clear BK101
   clear BK111
   clear HB
   have HO_6 := n0_
   have HO_112001 := n1_
   have HO119 := n2_
   have BK101 := n3_
   have BK111 := n4_
   have HB := n5_
   clear n0_ n1_ n2_ n3_ n4_ n5_
   obtain ⟨Ao40, co40, eo40⟩ := Kd.R_slice HO_112001.out
   (first | subst eo40 | (injection eo40 with f1_ f2_ f3_; have f4_ := f1_.symm; have f5_ := f3_.symm; clear f1_ f2_ f3_; subst f4_; subst f5_))
   have p120 : 0 ≤ ((rd (rd_L1 l1_1 x25_1) x33_2) : Int) := of_decide_eq_true (by first | (with_reducible assumption) | assumption)
   have q120 : (rd (rd_L1 l1_1 x25_1) x33_2) < (x112001_2.length : Int) := of_decide_eq_true (by first | (with_reducible assumption) | assumption)
   obtain ⟨ad120, e120, hx120_0⟩ := Kd.at_int (Kd.R_reads' HO_112001.out).2.2 (rd (rd_L1 l1_1 x25_1) x33_2) p120 q120
   cases e120
   replace p120 := eq_true p120
   replace q120 := eq_true q120
   have p35 : 0 ≤ ((rd (rd_L1 l1_1 x25_1) x33_2) : Int) := of_decide_eq_true (by first | (with_reducible assumption) | assumption)
   have q35 : ((rd (rd_L1 l1_1 x25_1) x33_2) : Int) < ((x112001_2.length : Int) : Int) := of_decide_eq_true (by first | (with_reducible assumption) | assumption)
   obtain ⟨go35, co35, eo35, gb35, gl35, cl35, HG35⟩ := Kd.R_form HO_112001.out (by omega)
   (first | cases eo35 | (injection eo35 with ea_ en_ ec_; (first | subst ea_ | (injection ea_ with ea_; subst ea_)); subst ec_; clear en_))
   have GB35 := Aside0.mk gb35
   have GG35 := Aside0.mk HG35
   clear gb35 gl35 HG35
   (first | simp only [add_plain] at hx120_0 | skip)
   obtain ⟨hx35_0, hf35_0⟩ := Kd.R_celln 0 HO_112001.out ((rd (rd_L1 l1_1 x25_1) x33_2) : Int) p35 q35
   replace p35 := eq_true p35
   replace q35 := eq_true q35
   have HP41 := Kd.R_putn HO_112001.out ((rd (rd_L1 l1_1 x25_1) x33_2) : Int) (wrap64 ((wrap64 ((rd x112001_2 (rd (rd_L1 l1_1 x25_1) x33_2)) * a2)) + (rd x6_2 0)))
   rw [← Ny121.out] at HP41
   have HQ41 := Aside0.mk HP41
   clear HP41
   refine start_ (n := 14) (S := fun w' => w'.cell? ⟨gb111, 0, none⟩ = some (.int .i64 (rd l0 0)) ∧ w'.cell? ⟨gb111, 1, none⟩ = some (.slice (some ⟨go35, 0, none⟩) x112001_2.length co40) ∧ w'.cell? ⟨go35, ((rd (rd_L1 l1_1 x25_1) x33_2)).toNat, none⟩ = some (.int .i64 (rd x112001_2 (rd (rd_L1 l1_1 x25_1) x33_2))) ∧ w'.cell? ⟨gs, 0, none⟩ = some (.int .i64 a2)) (ds := [13]) #[false, false, false, false, false, false, false, false, false, false, false, false, false, false] (by kernel_rfl) rfl rfl ⟨(blk_cell BK111.out 0).trans rfl, (blk_cell BK111.out 1).trans rfl, hx120_0, (HB.out.cell (World.block_lt_of_cell? w _ HXS.out)).trans HXS.out⟩ (fun hHeld => ?_); refine with_tabW famN.tab12 famN.bits12 (fun HT_ HW_ => ?_)
   generalize w36.drew = w39 at HO_6 HO_112001 HO119 BK101 BK111 HB GG35 HQ41 hf35_0 hx120_0 hx35_0 hHeld ⊢
   refine pure_ (i := 0) (N := some 56) (v := ?_) (a' := ?_) #[true, false, false, false, false, false, false, false, false, false, false, false, false, false] rfl rfl (any_of HT_.out (by kernel_rfl)) (fun _ _ _ h => h) (Or.inl ⟨by rfl, ?_⟩) ?_ ?_
   rotate_left
   ·
    intro w'
    go_simp
    with_reducible rfl
   rotate_left
   ·
    simp only [Act.put, List.setIfInBounds_toArray, List.set_cons_zero, List.set_cons_succ, i64_w, i32_w]
    rfl
   refine pure_ (i := 2) (N := some 58) (v := ?_) (a' := ?_) #[true, false, true, false, false, false, false, false, false, false, false, false, false, false] rfl rfl (any_of HT_.out (by kernel_rfl)) (fun _ _ _ h => h) (Or.inl ⟨by rfl, ?_⟩) ?_ ?_
   rotate_left
   ·
    intro w'
    go_simp
    with_reducible rfl
   rotate_left
   ·
    simp only [Act.put, List.setIfInBounds_toArray, List.set_cons_zero, List.set_cons_succ, i64_w, i32_w]
    rfl
   refine pure_ (i := 3) (N := some 59) (v := ?_) (a' := ?_) #[true, false, true, true, false, false, false, false, false, false, false, false, false, false] rfl rfl (any_of HT_.out (by kernel_rfl)) (fun _ _ _ h => h) (Or.inl ⟨by rfl, ?_⟩) ?_ ?_
   rotate_left
   ·
    intro w'
    go_simp
    with_reducible rfl
   rotate_left
   ·
    simp only [Act.put, List.setIfInBounds_toArray, List.set_cons_zero, List.set_cons_succ, i64_w, i32_w]
    rfl
   refine pure_ (i := 5) (N := some 61) (v := ?_) (a' := ?_) #[true, false, true, true, false, true, false, false, false, false, false, false, false, false] rfl rfl (any_of HT_.out (by kernel_rfl)) (fun _ _ _ h => h) (Or.inl ⟨by rfl, ?_⟩) ?_ ?_
   rotate_left
   ·
    intro w'
    go_simp
    with_reducible rfl
   rotate_left
   ·
    simp only [Act.put, List.setIfInBounds_toArray, List.set_cons_zero, List.set_cons_succ, i64_w, i32_w]
    rfl
   refine take_ (i := 8) (N := some 64) (v := ?_) (a' := ?_) #[true, false, true, true, false, true, false, false, true, false, false, false, false, false] rfl rfl (take_ofW HT_.out HW_.out (by kernel_rfl)) (fun _ _ _ h => h) (Or.inl ⟨by rfl, ?_⟩) hHeld ?_ ?_
   rotate_left
   ·
    rintro w' ⟨s0, s1, s2, s3⟩
    go_simp
    with_reducible rfl
   rotate_left
   ·
    simp only [Act.put, List.setIfInBounds_toArray, List.set_cons_zero, List.set_cons_succ, i64_w, i32_w]
    rfl
   refine pure_ (i := 10) (N := some 66) (v := ?_) (a' := ?_) #[true, false, true, true, false, true, false, false, true, false, true, false, false, false] rfl rfl (any_of HT_.out (by kernel_rfl)) (fun _ _ _ h => h) (Or.inl ⟨by rfl, ?_⟩) ?_ ?_
   rotate_left
   ·
    intro w'
    go_simp
    with_reducible rfl
   rotate_left
   ·
    simp only [Act.put, List.setIfInBounds_toArray, List.set_cons_zero, List.set_cons_succ, i64_w, i32_w]
    rfl
   refine take_ (i := 1) (N := some 57) (v := ?_) (a' := ?_) #[true, true, true, true, false, true, false, false, true, false, true, false, false, false] rfl rfl (take_ofW HT_.out HW_.out (by kernel_rfl)) (fun _ _ _ h => h) (Or.inl ⟨by rfl, ?_⟩) hHeld ?_ ?_
   rotate_left
   ·
    rintro w' ⟨s0, s1, s2, s3⟩
    go_simp
    with_reducible rfl
   rotate_left
   ·
    simp only [Act.put, List.setIfInBounds_toArray, List.set_cons_zero, List.set_cons_succ, i64_w, i32_w]
    rfl
   refine take_ (i := 4) (N := some 60) (v := ?_) (a' := ?_) #[true, true, true, true, true, true, false, false, true, false, true, false, false, false] rfl rfl (take_ofW HT_.out HW_.out (by kernel_rfl)) (fun _ _ _ h => h) (Or.inl ⟨by rfl, ?_⟩) hHeld ?_ ?_
   rotate_left
   ·
    rintro w' ⟨s0, s1, s2, s3⟩
    go_simp
    with_reducible rfl
   rotate_left
   ·
    simp only [Act.put, List.setIfInBounds_toArray, List.set_cons_zero, List.set_cons_succ, i64_w, i32_w]
    rfl
   refine pure_ (i := 6) (N := some 62) (v := ?_) (a' := ?_) #[true, true, true, true, true, true, true, false, true, false, true, false, false, false] rfl rfl (any_of HT_.out (by kernel_rfl)) (fun _ _ _ h => h) (Or.inl ⟨by rfl, ?_⟩) ?_ ?_
   rotate_left
   ·
    intro w'
    go_simp
    with_reducible rfl
   rotate_left
   ·
    simp only [Act.put, List.setIfInBounds_toArray, List.set_cons_zero, List.set_cons_succ, i64_w, i32_w]
    rfl
   refine take_ (i := 7) (N := some 63) (v := ?_) (a' := ?_) #[true, true, true, true, true, true, true, true, true, false, true, false, false, false] rfl rfl (take_ofW HT_.out HW_.out (by kernel_rfl)) (fun _ _ _ h => h) (Or.inl ⟨by rfl, ?_⟩) hHeld ?_ ?_
   rotate_left
   ·
    rintro w' ⟨s0, s1, s2, s3⟩
    go_simp
    with_reducible rfl
   rotate_left
   ·
    simp only [Act.put, List.setIfInBounds_toArray, List.set_cons_zero, List.set_cons_succ, i64_w, i32_w]
    rfl
   refine pure_ (i := 9) (N := some 65) (v := ?_) (a' := ?_) #[true, true, true, true, true, true, true, true, true, true, true, false, false, false] rfl rfl (any_of HT_.out (by kernel_rfl)) (fun _ _ _ h => h) (Or.inl ⟨by rfl, ?_⟩) ?_ ?_
   rotate_left
   ·
    intro w'
    go_simp
    with_reducible rfl
   rotate_left
   ·
    simp only [Act.put, List.setIfInBounds_toArray, List.set_cons_zero, List.set_cons_succ, i64_w, i32_w]
    rfl
   refine pure_ (i := 11) (N := some 67) (v := ?_) (a' := ?_) #[true, true, true, true, true, true, true, true, true, true, true, true, false, false] rfl rfl (any_of HT_.out (by kernel_rfl)) (fun _ _ _ h => h) (Or.inl ⟨by rfl, ?_⟩) ?_ ?_
   rotate_left
   ·
    intro w'
    go_simp
    with_reducible rfl
   rotate_left
   ·
    simp only [Act.put, List.setIfInBounds_toArray, List.set_cons_zero, List.set_cons_succ, i64_w, i32_w]
    rfl
   refine pure_ (i := 12) (N := some 68) (v := ?_) (a' := ?_) #[true, true, true, true, true, true, true, true, true, true, true, true, true, false] rfl rfl (any_of HT_.out (by kernel_rfl)) (fun _ _ _ h => h) (Or.inl ⟨by rfl, ?_⟩) ?_ ?_
   rotate_left
   ·
    intro w'
    go_simp
    with_reducible rfl
   rotate_left
   ·
    simp only [Act.put, List.setIfInBounds_toArray, List.set_cons_zero, List.set_cons_succ, i64_w, i32_w]
    rfl
   refine last_ (i := 13) (N := none) #[true, true, true, true, true, true, true, true, true, true, true, true, true, true] rfl rfl (one_of HT_.out (by kernel_rfl)) (by decide) (fun K hK => ?_)
   refine skip_ (w1 := ?_) (by rfl) rfl ?_ ?_
   rotate_left
   ·
    go_simp
    rfl
   refine hK.out _ _ ?_
   clear hK K
   refine done_ (done_of HT_.out (by kernel_rfl)) ?_
   have hxs_ := (HB.out.cell (World.block_lt_of_cell? w _ HXS.out)).trans HXS.out
   try go_wp2
   go_roundg k2
   case measure => have := HK1.out; have := HK2.out; omega
   case rel => exact ⟨(y115), (Int.tmod (wrap64 ((wrap64 (x9_2 - (rd x6_2 0))) + a2)) a2), (wrap64 (x33_2 + 1)), (y121), (.slice (some ⟨go35, 0, none⟩) x112001_2.length co40), rfl, rfl, H', ⟨by have := HK1.out; have := HK2.out; omega⟩, ⟨by (with_reducible repeat (first | apply Kd.V_alloc | apply Kd.V_drewN | apply Kd.V_drew)); exact Kd.V_mono (Kd.V_far (p := ⟨go35, ((rd (rd_L1 l1_1 x25_1) x33_2) : Int).toNat, none⟩) (Kd.V_mono HO119.out (fun k_ hk => (⟨hk, fun e_ => hk.2.1 (by rw [e_]; rfl)⟩ : _ ∧ k_ ≠ go35))) (fun _ hk => hk.2) (.int .i64 (wrap64 ((wrap64 ((rd x112001_2 (rd (rd_L1 l1_1 x25_1) x33_2)) * a2)) + (rd x6_2 0))))) (fun _ hk => ⟨hk.1.1, ⟨hk.1.2.1, ⟨hk.1.2.2.1, hk.1.2.2.2⟩⟩⟩)⟩, ⟨by (with_reducible repeat (first | apply Kd.R_alloc | apply Kd.R_drewN | apply Kd.R_drew)); exact HQ41.out⟩, ⟨by (with_reducible repeat (first | refine blk_drewN ?_ _ | refine blk_drew ?_ | refine blk_alloc ?_ _)); refine blk_far ?_ (by have h_ := Kd.R_ne HO_112001.out BK101.out (by decide); intro e_; exact h_ (by rw [e_]; rfl)) _; (with_reducible repeat (first | refine blk_drewN ?_ _ | refine blk_drew ?_ | refine blk_alloc ?_ _)); exact BK101.out⟩, ⟨by (with_reducible repeat (first | refine blk_drewN ?_ _ | refine blk_drew ?_ | refine blk_alloc ?_ _)); refine blk_far ?_ (by have h_ := Kd.R_ne HO_112001.out BK111.out (by decide); intro e_; exact h_ (by rw [e_]; rfl)) _; (with_reducible repeat (first | refine blk_drewN ?_ _ | refine blk_drew ?_ | refine blk_alloc ?_ _)); exact BK111.out⟩, ⟨by repeat (first | exact HB.out | apply below_alloc | apply pw_below_drewN | apply below_drew1 | refine below_set ?_ GB35.out | refine below_set ?_ GE101.out | refine below_set ?_ GE111.out)⟩⟩
end Go.Proofs.Ytdahdeohmbadhaa.TFamR
