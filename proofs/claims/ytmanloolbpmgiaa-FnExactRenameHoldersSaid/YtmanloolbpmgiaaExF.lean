/- What the exact laws' own helpers on families tell: sizes, copies, comparisons, marks that are held. -/
import Derived.Test.YtmanloolbpmgiaaMark
namespace Go.Proofs.Ytmanloolbpmgiaa.ExF
open Go.RowKit Go.Lib Go.Proofs Go.Proofs.YtmanloolbpmgiaaW.PrintWords Go.Proofs.YtmanloolbpmgiaaW.PrintWords.Kd Go.Proofs.YtmanloolbpmgiaaW.PrintLast Go.Proofs.YtmanloolbpmgiaaW.PrintMore Go.Proofs.Ytmanloolbpmgiaa.E Go.Proofs.Ytmanloolbpmgiaa.Loops Go.Proofs.Ytmanloolbpmgiaa.Mark
set_option linter.unusedVariables false
set_option linter.unusedSimpArgs false

theorem rdLL (xs : List (List Int)) (n : Nat) : rd_L1 xs (n : Int) = xs.getD n [] := by simp [rd_L1]
theorem getDL {gs : List (List Int)} {i : Nat} (hi : i < gs.length) : gs.getD i [] = gs[i] := by simp [List.getD, List.getElem?_eq_getElem hi]
theorem total_drop {gs : List (List Int)} {i : Nat} (hi : i < gs.length) : total (gs.drop i) = (gs.getD i []).length + total (gs.drop (i + 1)) := by
  rw [List.drop_eq_getElem_cons hi, getDL hi]; rfl
theorem len_total : ∀ {gs : List (List Int)} {g : List Int}, g ∈ gs → g.length ≤ total gs
  | [], _, h => by cases h
  | a :: gs, g, h => by
    rcases List.mem_cons.1 h with rfl | h
    · simp [total]
    · have := len_total h; simp [total]; omega

/-! ### sizes -/
theorem szS_is (l : List Int) (a : Int) (h0 : 0 ≤ a) (h1 : a ≤ 1048576) (hl : l.length ≤ 9223372036854775807) : laws_szInt64S.f l a = some (if a < l.length then -1 else a - l.length) := by
  unfold laws_szInt64S.f
  have e : wrap64 (a - (l.length : Int)) = a - l.length := wrap_id (by omega) (by omega)
  rw [e]
  by_cases h : a < (l.length : Int)
  · rw [if_pos (by omega), if_pos h]
  · rw [if_neg (by omega), if_neg h]
theorem szSS_loop (gs : List (List Int)) (hl : gs.length ≤ 9223372036854775807) (hg : ∀ g ∈ gs, g.length ≤ 9223372036854775807) : ∀ (d n : Nat) (a : Int), n ≤ gs.length → gs.length - n = d → 0 ≤ a → a ≤ 1048576 →
    Ev (fun k => laws_szInt64SS.l0 k gs a (n : Int)) (if a < total (gs.drop n) then -1 else a - total (gs.drop n)) := by
  intro d
  induction d with
  | zero =>
    intro n a hn hd h0 h1
    obtain rfl : n = gs.length := by omega
    rw [List.drop_length]
    rw [if_neg (by simp [total]; omega)]
    refine Ev.step (f := fun _ => some a) (fun k => by simp only [laws_szInt64SS.l0]; rw [if_neg (by omega)]) ?_
    simpa [total] using Ev.now a
  | succ d ih =>
    intro n a hn hd h0 h1
    have hlt : n < gs.length := by omega
    have hgl : (gs.getD n []).length ≤ 9223372036854775807 := by rw [getDL hlt]; exact hg _ (List.getElem_mem hlt)
    have ht := total_drop hlt
    have hw : wrap64 ((n : Int) + 1) = ((n + 1 : Nat) : Int) := by rw [wrap_id (by omega) (by omega)]; omega
    by_cases h : a < ((gs.getD n []).length : Int)
    · rw [if_pos (by omega)]
      refine Ev.step (f := fun _ => some (-1)) (fun k => ?_) (Ev.now _)
      simp only [laws_szInt64SS.l0]
      rw [if_pos (by omega), if_pos (by omega), rdLL, szS_is _ a h0 h1 hgl, if_pos h]
      rfl
    · have h2 := ih (n + 1) (a - (gs.getD n []).length) (by omega) (by omega) (by omega) (by omega)
      have e : (if a < total (gs.drop n) then (-1 : Int) else a - total (gs.drop n)) = if a - ((gs.getD n []).length : Int) < total (gs.drop (n + 1)) then -1 else a - ((gs.getD n []).length : Int) - total (gs.drop (n + 1)) := by
        rw [ht]
        by_cases h3 : a - ((gs.getD n []).length : Int) < total (gs.drop (n + 1))
        · rw [if_pos h3, if_pos (by omega)]
        · rw [if_neg h3, if_neg (by omega)]; omega
      rw [e]
      refine Ev.step (fun k => ?_) h2
      simp only [laws_szInt64SS.l0]
      rw [if_pos (by omega), if_pos (by omega), rdLL, szS_is _ a h0 h1 hgl, if_neg h]
      simp only [Option.bind_some]
      rw [if_neg (by omega), hw]
/-- How much rows count. -/
def size2 (gs : List (List Int)) : Nat := gs.length + total gs
theorem szSS_is (gs : List (List Int)) (hl : gs.length ≤ 9223372036854775807) (hg : ∀ g ∈ gs, g.length ≤ 9223372036854775807) (a : Int) (h0 : 0 ≤ a) (h1 : a ≤ 1048576) :
    Ev (fun k => laws_szInt64SS.f k gs a) (if a < size2 gs then -1 else a - size2 gs) := by
  have e : wrap64 (a - (gs.length : Int)) = a - gs.length := wrap_id (by omega) (by omega)
  unfold laws_szInt64SS.f
  rw [e]
  by_cases h : a - (gs.length : Int) < 0
  · rw [if_pos (by unfold size2; omega)]
    simp only [if_pos h]
    exact Ev.now _
  · simp only [if_neg h]
    have := szSS_loop gs hl hg gs.length 0 (a - gs.length) (by omega) (by omega) (by omega) (by omega)
    rw [List.drop_zero] at this
    have e2 : (if a < size2 gs then (-1 : Int) else a - size2 gs) = if a - (gs.length : Int) < total gs then -1 else a - (gs.length : Int) - total gs := by
      unfold size2
      by_cases h3 : a - (gs.length : Int) < total gs
      · rw [if_pos h3, if_pos (by omega)]
      · rw [if_neg h3, if_neg (by omega)]; omega
    rw [e2]
    exact this

/-! ### copies -/
theorem toS_is (a : List Int) (k : Nat) (hb : a.length ≤ 1048576) (hk : a.length < k) : laws_toInt64S.f k a = some a := by
  unfold laws_toInt64S.f
  rw [if_pos (by omega), if_pos (by omega)]
  exact copy_loop 0 (fun k y i => laws_toInt64S.l0 k a y i) a (rd a) (fun n _ => rd_nat a n) (by omega) (fun k y i hy h0 h1 => by
    simp only [laws_toInt64S.l0]
    rw [if_pos h1, if_pos h0, if_pos (by omega)]) (fun k y => by simp only [laws_toInt64S.l0]; rw [if_neg (by omega)]) a.length k 0 _ (by simp) (by omega) (by omega) hk (by simp)
theorem toSS_loop (gs : List (List Int)) (hl : gs.length ≤ 1048576) (hg : ∀ g ∈ gs, g.length ≤ 1048576) : ∀ (d n : Nat) (y : List (List Int)), y.length = gs.length → n ≤ gs.length → gs.length - n = d → y.take n = gs.take n →
    Ev (fun k => laws_toInt64SS.l0 k gs y (n : Int)) gs := by
  intro d
  induction d with
  | zero =>
    intro n y hy hn hd ht
    obtain rfl : n = gs.length := by omega
    rw [List.take_length, ← hy, List.take_length] at ht
    refine Ev.step (f := fun _ => some y) (fun k => by simp only [laws_toInt64SS.l0]; rw [if_neg (by omega)]) ?_
    rw [ht]; exact Ev.now _
  | succ d ih =>
    intro n y hy hn hd ht
    have hlt : n < gs.length := by omega
    have hgl : (gs.getD n []).length ≤ 1048576 := by rw [getDL hlt]; exact hg _ (List.getElem_mem hlt)
    have hw : wrap64 ((n : Int) + 1) = ((n + 1 : Nat) : Int) := by rw [wrap_id (by omega) (by omega)]; omega
    have h2 := ih (n + 1) (y.set n (gs.getD n [])) (by rw [List.length_set]; exact hy) (by omega) (by omega) (by
      rw [List.take_succ_eq_append_getElem (by rw [List.length_set]; omega), List.take_succ_eq_append_getElem hlt, List.take_set_of_le (by omega), ht]
      congr 1
      simp [List.getD, List.getElem?_eq_getElem hlt])
    refine Ev.step (f := fun k => (laws_toInt64S.f k (gs.getD n [])).bind fun t => if (n : Int) < (y.length : Int) then laws_toInt64SS.l0 k gs (y.set (n : Int).toNat t) (wrap64 ((n : Int) + 1)) else none) (fun k => by
      simp only [laws_toInt64SS.l0]
      rw [if_pos (by omega), if_pos (by omega), rdLL]) ?_
    refine Ev.bind (a := gs.getD n []) ⟨(gs.getD n []).length + 1, fun k hk => toS_is _ k hgl (by omega)⟩ ?_
    rw [hw, Int.toNat_natCast]
    exact h2.congr (fun k => by rw [if_pos (by omega)])
theorem toSS_is (gs : List (List Int)) (hl : gs.length ≤ 1048576) (hg : ∀ g ∈ gs, g.length ≤ 1048576) : Ev (fun k => laws_toInt64SS.f k gs) gs := by
  unfold laws_toInt64SS.f
  refine (toSS_loop gs hl hg gs.length 0 (List.replicate ((gs.length : Int) : Int).toNat []) (by simp) (by omega) (by omega) (by simp)).congr (fun k => ?_)
  rw [if_pos (by omega), if_pos (by omega)]
  rfl

/-! ### comparisons -/
theorem eqS_is (a b : List Int) (k : Nat) (hb : a.length ≤ 9223372036854775807) (hk : a.length < k) : laws_eqInt64S.f k a b = some (decide (a = b)) := by
  unfold laws_eqInt64S.f
  by_cases hl : a.length = b.length
  · rw [if_pos (by omega)]
    have := eq_loop (fun k i => laws_eqInt64S.l0 k a b i) a b hl hb (fun k i h0 h1 => by
      simp only [laws_eqInt64S.l0]
      rw [if_pos h1, if_pos h0, if_pos (by omega)]) (fun k => by simp only [laws_eqInt64S.l0]; rw [if_neg (by omega)]) a.length k 0 (by omega) (by omega) hk
    simpa using this
  · rw [if_neg (by omega)]
    congr 1
    symm
    apply decide_eq_false
    rintro rfl
    exact hl rfl
theorem eqSS_loop (a b : List (List Int)) (hl : a.length = b.length) (hb : a.length ≤ 9223372036854775807) (hg : ∀ g ∈ a, g.length ≤ 9223372036854775807) :
    ∀ (d i : Nat), i ≤ a.length → a.length - i = d → Ev (fun k => laws_eqInt64SS.l0 k a b (i : Int)) (decide (a.drop i = b.drop i)) := by
  intro d
  induction d with
  | zero =>
    intro i hi hd
    obtain rfl : i = a.length := by omega
    refine Ev.step (f := fun _ => some true) (fun k => by simp only [laws_eqInt64SS.l0]; rw [if_neg (by omega)]) ?_
    rw [List.drop_length, hl, List.drop_length]
    exact Ev.now true
  | succ d ih =>
    intro i hi hd
    have hlt : i < a.length := by omega
    have hE : Ev (fun k => laws_eqInt64S.f k (a.getD i []) (b.getD i [])) (decide (a.getD i [] = b.getD i [])) := ⟨(a.getD i []).length + 1, fun k hk => eqS_is _ _ k (by rw [getDL hlt]; exact hg _ (List.getElem_mem _)) (by omega)⟩
    refine Ev.step (f := fun k => (laws_eqInt64S.f k (a.getD i []) (b.getD i [])).bind fun t => if t = true then laws_eqInt64SS.l0 k a b (wrap64 ((i : Int) + 1)) else some false) (fun k => by
      simp only [laws_eqInt64SS.l0]
      rw [if_pos (by omega), if_pos (by omega), if_pos (by omega), rdLL, rdLL]) (Ev.bind hE ?_)
    have hs := drop_eq_step [] a b i hlt (by omega)
    have h1 := ih (i + 1) (by omega) (by omega)
    rw [show ((i + 1 : Nat) : Int) = wrap64 ((i : Int) + 1) from by rw [wrap_id (by omega) (by omega)]; omega] at h1
    by_cases h : a.getD i [] = b.getD i []
    · rw [decide_eq_true h, show decide (a.drop i = b.drop i) = decide (a.drop (i + 1) = b.drop (i + 1)) from decide_eq_decide.2 (hs.trans ⟨fun h' => h'.2, fun h' => ⟨h, h'⟩⟩)]
      simpa using h1
    · rw [decide_eq_false h, show decide (a.drop i = b.drop i) = false from decide_eq_false (fun h' => h (hs.1 h').1)]
      simpa using Ev.now false
theorem eqSS_is (a b : List (List Int)) (hb : a.length ≤ 9223372036854775807) (hg : ∀ g ∈ a, g.length ≤ 9223372036854775807) : Ev (fun k => laws_eqInt64SS.f k a b) (decide (a = b)) := by
  unfold laws_eqInt64SS.f
  by_cases hl : a.length = b.length
  · have := eqSS_loop a b hl hb hg a.length 0 (by omega) (by omega)
    rw [List.drop_zero, List.drop_zero] at this
    exact this.congr (fun k => by rw [if_pos (by omega)]; rfl)
  · rw [show decide (a = b) = false from decide_eq_false (fun h => hl (by rw [h]))]
    refine Ev.congr (f := fun _ => some false) (fun k => by rw [if_neg (by omega)]) (Ev.now _)

/-! ### marks, held -/
theorem heldS_loop (n : Nat) (k0 : Int) (h0 : 0 ≤ k0) (hk0 : k0 + n < 9223372036854775807) : ∀ (d j : Nat), j ≤ n → n - j = d → Ev (fun k => laws_heldInt64S.l0 k (upL n k0) (k0 + j) (j : Int)) (k0 + n) := by
  intro d
  induction d with
  | zero =>
    intro j hj hd
    obtain rfl : j = n := by omega
    exact Ev.step (f := fun _ => some (k0 + (j : Int))) (fun k => by simp only [laws_heldInt64S.l0]; rw [if_neg (by rw [upL_len]; omega)]) (Ev.now _)
  | succ d ih =>
    intro j hj hd
    have h1 := ih (j + 1) (by omega) (by omega)
    refine Ev.step (fun k => ?_) h1
    simp only [laws_heldInt64S.l0]
    rw [if_pos (by rw [upL_len]; omega), if_pos (by omega), rd_nat, upL_get n k0 j (by omega), if_pos rfl, wrap_id (by omega) (by omega), wrap_id (by omega) (by omega)]
    congr 1
    omega
theorem heldS_is (n : Nat) (k0 : Int) (h0 : 0 ≤ k0) (hk0 : k0 + n < 9223372036854775807) : Ev (fun k => laws_heldInt64S.f k (upL n k0) k0) (k0 + n) := by
  have := heldS_loop n k0 h0 hk0 n 0 (by omega) (by omega)
  show Ev (fun k => laws_heldInt64S.l0 k (upL n k0) k0 0) _
  simpa using this
theorem getD_mark (gs : List (List Int)) (k0 : Int) (i : Nat) (hi : i < gs.length) : (markG gs k0).getD i [] = upL (gs.getD i []).length (k0 + total (gs.take i)) := by
  have h := markG_append (gs.take i) (gs.drop i) k0
  rw [List.take_append_drop] at h
  have hl : (markG (gs.take i) k0).length = i := by rw [markG_len, List.length_take]; omega
  rw [h, List.drop_eq_getElem_cons hi]
  simp only [markG]
  rw [List.getD_eq_getElem?_getD, List.getElem?_append_right (by omega), hl, Nat.sub_self, getDL hi]
  rfl
theorem heldSS_loop (gs : List (List Int)) (k0 : Int) (h0 : 0 ≤ k0) (hk0 : k0 + total gs < 9223372036854775807) (hl : gs.length ≤ 9223372036854775807) : ∀ (d i : Nat), i ≤ gs.length → gs.length - i = d →
    Ev (fun k => laws_heldInt64SS.l0 k (markG gs k0) (k0 + total (gs.take i)) (i : Int)) (k0 + total gs) := by
  intro d
  induction d with
  | zero =>
    intro i hi hd
    obtain rfl : i = gs.length := by omega
    rw [List.take_length]
    exact Ev.step (f := fun _ => some (k0 + (total gs : Int))) (fun k => by simp only [laws_heldInt64SS.l0]; rw [if_neg (by rw [markG_len]; omega)]) (Ev.now _)
  | succ d ih =>
    intro i hi hd
    have hlt : i < gs.length := by omega
    have hle := len_le_total hlt
    have h1 := ih (i + 1) (by omega) (by omega)
    rw [total_take_succ hlt] at h1
    have hw : wrap64 ((i : Int) + 1) = ((i + 1 : Nat) : Int) := by rw [wrap_id (by omega) (by omega)]; omega
    refine Ev.step (f := fun k => (laws_heldInt64S.f k (upL (gs.getD i []).length (k0 + total (gs.take i))) (k0 + total (gs.take i))).bind fun t => if t < 0 then some (-1) else laws_heldInt64SS.l0 k (markG gs k0) t (wrap64 ((i : Int) + 1))) (fun k => by
      simp only [laws_heldInt64SS.l0]
      rw [if_pos (by rw [markG_len]; omega), if_pos (by omega), rdLL, getD_mark gs k0 i hlt]) ?_
    refine Ev.bind (heldS_is (gs.getD i []).length (k0 + total (gs.take i)) (by omega) (by omega)) ?_
    rw [hw]
    rw [show k0 + ((total (gs.take i) + (gs.getD i []).length : Nat) : Int) = k0 + (total (gs.take i) : Int) + ((gs.getD i []).length : Int) by omega] at h1
    exact h1.congr (fun k => by rw [if_neg (by omega)])
theorem heldSS_is (gs : List (List Int)) (k0 : Int) (h0 : 0 ≤ k0) (hk0 : k0 + total gs < 9223372036854775807) (hl : gs.length ≤ 9223372036854775807) : Ev (fun k => laws_heldInt64SS.f k (markG gs k0) k0) (k0 + total gs) := by
  have := heldSS_loop gs k0 h0 hk0 hl gs.length 0 (by omega) (by omega)
  show Ev (fun k => laws_heldInt64SS.l0 k (markG gs k0) k0 0) _
  simpa [total] using this

/-! ### the contracts -/
theorem lens_C {w : World} {A : Option Addr} {n : Nat} {gs : List (List Int)} (h : dR.C w A n gs) : gs.length ≤ 9223372036854775807 ∧ ∀ g ∈ gs, g.length ≤ 9223372036854775807 := by
  refine ⟨by rw [h.1]; exact h.2.1, fun g hg => ?_⟩
  obtain ⟨i, hi, rfl⟩ := List.mem_iff_getElem.1 hg
  have hn := h.1
  obtain ⟨ad, e, hc⟩ := h.2.2 (by omega)
  obtain ⟨c, hl, ⟨A', c', _, _, hC⟩, _⟩ := hc i gs[i] (List.getElem?_eq_getElem hi)
  exact hC.2.1
/-- Rows that are not too many. -/
def Few (gs : List (List Int)) : Prop := gs.length ≤ 1048576 ∧ ∀ g ∈ gs, g.length ≤ 1048576
theorem few_of {gs : List (List Int)} {a : Int} (h1 : a ≤ 1048576) (h : ¬ a < size2 gs) : Few gs := by
  unfold size2 at h
  exact ⟨by omega, fun g hg => by have := len_total hg; omega⟩
theorem szF_calls (n : Int) (A : Option Addr) (c : Nat) (gs : List (List Int)) (a : Int) (h0 : 0 ≤ a) (h1 : a ≤ 1048576) (w : World) (hC : dR.C w A gs.length gs) (hc : gs.length ≤ c) :
    Calls Try.prog 32 #[.agg #[.int .i64 n, .slice A gs.length c], .int .i64 a] w fun e w' => e = .returned (.int .i64 (if a < size2 gs then -1 else a - size2 gs)) ∧ Below w.heap.size w w' := by
  have hE : Ev (fun k => laws_szFamily.f k n gs a) (if a < size2 gs then -1 else a - size2 gs) := by
    unfold laws_szFamily.f
    refine Ev.bind (szSS_is gs (lens_C hC).1 (lens_C hC).2 a h0 h1) ?_
    by_cases h : a < size2 gs
    · rw [if_pos h]; exact Ev.now _
    · rw [if_neg h, if_neg (by omega)]; exact Ev.now _
  obtain ⟨k, hk⟩ := hE.rounds
  exact laws_szFamily.calls k n A c gs a _ w hC hc hk
theorem toF_calls (n : Int) (A : Option Addr) (c : Nat) (gs : List (List Int)) (hf : Few gs) (w : World) (hC : dR.C w A gs.length gs) (hc : gs.length ≤ c) :
    Calls Try.prog 34 #[.agg #[.int .i64 n, .slice A gs.length c]] w fun e w' => ∃ v, e = .returned (.agg #[.int .i64 n, v]) ∧ Kd.S dR 28 w' w.heap.size (fun _ => True) v gs ∧ Below w.heap.size w w' := by
  have hE : Ev (fun k => laws_toFamily.f k n gs) (n, gs) := by
    unfold laws_toFamily.f
    exact Ev.bind (toSS_is gs hf.1 hf.2) (Ev.now _)
  obtain ⟨k, hk⟩ := hE.rounds
  exact laws_toFamily.calls k n A c gs _ _ w hC hc hk
theorem eqF_calls (n m : Int) (A A' : Option Addr) (c c' : Nat) (gs hs : List (List Int)) (w : World) (hC : dR.C w A gs.length gs) (hc : gs.length ≤ c) (hC' : dR.C w A' hs.length hs) (hc' : hs.length ≤ c') :
    Calls Try.prog 36 #[.agg #[.int .i64 n, .slice A gs.length c], .agg #[.int .i64 m, .slice A' hs.length c']] w fun e w' => e = .returned (.bool (decide (n = m ∧ gs = hs))) ∧ Below w.heap.size w w' := by
  have hE : Ev (fun k => laws_eqFamily.f k n gs m hs) (decide (n = m ∧ gs = hs)) := by
    unfold laws_eqFamily.f
    by_cases h : n = m
    · simp only [if_pos h]
      refine Ev.bind (eqSS_is gs hs (lens_C hC).1 (lens_C hC).2) ?_
      by_cases h2 : gs = hs
      · simp only [decide_eq_true h2, decide_eq_true (show n = m ∧ gs = hs from ⟨h, h2⟩), if_true]; exact Ev.now _
      · simp only [decide_eq_false h2, decide_eq_false (show ¬ (n = m ∧ gs = hs) from fun h3 => h2 h3.2), Bool.false_eq_true, if_false]; exact Ev.now _
    · simp only [if_neg h, decide_eq_false (show ¬ (n = m ∧ gs = hs) from fun h3 => h h3.1)]
      exact Ev.now _
  obtain ⟨k, hk⟩ := hE.rounds
  exact laws_eqFamily.calls k n A c gs m A' c' hs _ w hC hc hC' hc' hk
theorem heldF_calls (n : Int) (A : Option Addr) (c : Nat) (gs : List (List Int)) (k0 : Int) (h0 : 0 ≤ k0) (hk0 : k0 + total gs < 9223372036854775807) (w : World) (hC : dR.C w A (markG gs k0).length (markG gs k0)) (hc : (markG gs k0).length ≤ c) :
    Calls Try.prog 40 #[.agg #[.int .i64 n, .slice A (markG gs k0).length c], .int .i64 k0] w fun e w' => e = .returned (.int .i64 (k0 + total gs)) ∧ Below w.heap.size w w' := by
  have hl := (lens_C hC).1
  rw [markG_len] at hl
  have hE : Ev (fun k => laws_heldFamily.f k n (markG gs k0) k0) (k0 + total gs) := by
    unfold laws_heldFamily.f
    refine Ev.bind (heldSS_is gs k0 h0 hk0 hl) ?_
    rw [if_neg (by omega)]
    exact Ev.now _
  obtain ⟨k, hk⟩ := hE.rounds
  exact laws_heldFamily.calls k n A c (markG gs k0) k0 _ w hC hc hk

/-! ### rows of rows by themselves -/
theorem szG_calls (A : Option Addr) (c : Nat) (gs : List (List Int)) (a : Int) (h0 : 0 ≤ a) (h1 : a ≤ 1048576) (w : World) (hC : dR.C w A gs.length gs) (hc : gs.length ≤ c) :
    Calls Try.prog 77 #[.slice A gs.length c, .int .i64 a] w fun e w' => e = .returned (.int .i64 (if a < size2 gs then -1 else a - size2 gs)) ∧ Below w.heap.size w w' := by
  obtain ⟨k, hk⟩ := (szSS_is gs (lens_C hC).1 (lens_C hC).2 a h0 h1).rounds
  exact (laws_szInt64SS.calls k A c gs a _ w hC hc hk).mono fun e w' ⟨he, hd⟩ => ⟨he, hd.below⟩
theorem toG_calls (A : Option Addr) (c : Nat) (gs : List (List Int)) (hf : Few gs) (w : World) (hC : dR.C w A gs.length gs) (hc : gs.length ≤ c) :
    Calls Try.prog 81 #[.slice A gs.length c] w fun e w' => ∃ v, e = .returned v ∧ Kd.S dR 28 w' w.heap.size (fun _ => True) v gs ∧ Below w.heap.size w w' := by
  obtain ⟨k, hk⟩ := (toSS_is gs hf.1 hf.2).rounds
  exact laws_toInt64SS.calls k A c gs _ w hC hc hk
theorem eqG_calls (A A' : Option Addr) (c c' : Nat) (gs hs : List (List Int)) (w : World) (hC : dR.C w A gs.length gs) (hc : gs.length ≤ c) (hC' : dR.C w A' hs.length hs) (hc' : hs.length ≤ c') :
    Calls Try.prog 43 #[.slice A gs.length c, .slice A' hs.length c'] w fun e w' => e = .returned (.bool (decide (gs = hs))) ∧ Below w.heap.size w w' := by
  obtain ⟨k, hk⟩ := (eqSS_is gs hs (lens_C hC).1 (lens_C hC).2).rounds
  exact (laws_eqInt64SS.calls k A c gs A' c' hs _ w hC hc hC' hc' hk).mono fun e w' ⟨he, hd⟩ => ⟨he, hd.below⟩
theorem heldG_calls (A : Option Addr) (c : Nat) (gs : List (List Int)) (k0 : Int) (h0 : 0 ≤ k0) (hk0 : k0 + total gs < 9223372036854775807) (w : World) (hC : dR.C w A (markG gs k0).length (markG gs k0)) (hc : (markG gs k0).length ≤ c) :
    Calls Try.prog 45 #[.slice A (markG gs k0).length c, .int .i64 k0] w fun e w' => e = .returned (.int .i64 (k0 + total gs)) ∧ Below w.heap.size w w' := by
  have hl := (lens_C hC).1
  rw [markG_len] at hl
  obtain ⟨k, hk⟩ := (heldSS_is gs k0 h0 hk0 hl).rounds
  exact (laws_heldInt64SS.calls k A c (markG gs k0) k0 _ w hC hc hk).mono fun e w' ⟨he, hd⟩ => ⟨he, hd.below⟩

end Go.Proofs.Ytmanloolbpmgiaa.ExF
