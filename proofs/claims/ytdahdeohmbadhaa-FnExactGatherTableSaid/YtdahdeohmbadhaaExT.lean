/- What the exact laws' own helpers on tables tell: sizes, copies, comparisons, marks that are held. -/
import Derived.Test.YtdahdeohmbadhaaEx0
import Derived.Test.YtdahdeohmbadhaaMarkT
import Derived.Test.YtdahdeohmbadhaaGx4
import Derived.Test.YtdahdeohmbadhaaGx5
import Derived.Test.YtdahdeohmbadhaaGx6
import Derived.Test.YtdahdeohmbadhaaGx6
namespace Go.Proofs.Ytdahdeohmbadhaa.ExT
open Go.RowKit Go.Lib Go.Proofs Go.Proofs.YtdahdeohmbadhaaW.PrintWords Go.Proofs.YtdahdeohmbadhaaW.PrintWords.Kd Go.Proofs.YtdahdeohmbadhaaW.PrintLast Go.Proofs.YtdahdeohmbadhaaW.PrintMore Go.Proofs.Ytdahdeohmbadhaa.G Go.Proofs.Ytdahdeohmbadhaa.Loops Go.Proofs.Ytdahdeohmbadhaa.Mark Go.Proofs.Ytdahdeohmbadhaa.MarkT Go.Proofs.Ytdahdeohmbadhaa.ExF
set_option linter.unusedVariables false
set_option linter.unusedSimpArgs false

/-- A row as it comes in, and as it is handed on. -/
abbrev LRow := S83
abbrev lW : Kd LRow := k83
def toR (r : LRow) : Row := ⟨r.f0, r.f1⟩
theorem rdA (xs : List LRow) (n : Nat) : rd_T83 xs (n : Int) = xs.getD n z83 := by simp [rd_T83]
theorem rdB (xs : List Row) (n : Nat) : rd_T87 xs (n : Int) = xs.getD n zW := by simp [rd_T87]
theorem getA {rs : List LRow} {i : Nat} (hi : i < rs.length) : rs.getD i z83 = rs[i] := by simp [List.getD, List.getElem?_eq_getElem hi]
theorem getB {rs : List Row} {i : Nat} (hi : i < rs.length) : rs.getD i zW = rs[i] := by simp [List.getD, List.getElem?_eq_getElem hi]
/-- How much the shares count. -/
def shT : List LRow → Nat
  | [] => 0
  | r :: rs => r.f1.length + shT rs
theorem sh_drop {rs : List LRow} {i : Nat} (hi : i < rs.length) : shT (rs.drop i) = (rs.getD i z83).f1.length + shT (rs.drop (i + 1)) := by
  rw [List.drop_eq_getElem_cons hi, getA hi]; rfl
theorem sh_mem : ∀ {rs : List LRow} {r : LRow}, r ∈ rs → r.f1.length ≤ shT rs
  | [], _, h => by cases h
  | a :: rs, r, h => by
    rcases List.mem_cons.1 h with rfl | h
    · simp [shT]
    · have := sh_mem h; simp [shT]; omega
theorem tot_toR : ∀ rs : List LRow, totT (rs.map toR) = rs.length + shT rs
  | [] => rfl
  | r :: rs => by simp [totT, shT, tot_toR rs, toR]; omega
/-- How much a table counts. -/
def sizeT (sz : List Int) (rs : List LRow) : Nat := sz.length + (rs.length + shT rs)

/-! ### sizes -/
theorem szRow_is (s : Int) (l : List Int) (a : Int) (h0 : 0 ≤ a) (h1 : a ≤ 1048576) (hl : l.length ≤ 9223372036854775807) : laws_szRow.f s l a = some (if a < l.length then -1 else a - l.length) := by
  unfold laws_szRow.f
  rw [szS_is l a h0 h1 hl]
  simp only [Option.bind_some]
  by_cases h : a < (l.length : Int)
  · rw [if_pos h]; rfl
  · rw [if_neg h, if_neg (by omega)]
theorem szRowS_loop (rs : List LRow) (hl : rs.length ≤ 9223372036854775807) (hg : ∀ g ∈ rs, g.f1.length ≤ 9223372036854775807) : ∀ (d n : Nat) (a : Int), n ≤ rs.length → rs.length - n = d → 0 ≤ a → a ≤ 1048576 →
    Ev (fun k => laws_szRowS.l0 k rs a (n : Int)) (if a < shT (rs.drop n) then -1 else a - shT (rs.drop n)) := by
  intro d
  induction d with
  | zero =>
    intro n a hn hd h0 h1
    obtain rfl : n = rs.length := by omega
    rw [List.drop_length]
    rw [if_neg (by simp [shT]; omega)]
    refine Ev.step (f := fun _ => some a) (fun k => by simp only [laws_szRowS.l0]; rw [if_neg (by omega)]) ?_
    simpa [shT] using Ev.now a
  | succ d ih =>
    intro n a hn hd h0 h1
    have hlt : n < rs.length := by omega
    have hgl : (rs.getD n z83).f1.length ≤ 9223372036854775807 := by rw [getA hlt]; exact hg _ (List.getElem_mem hlt)
    have ht := sh_drop hlt
    have hw : wrap64 ((n : Int) + 1) = ((n + 1 : Nat) : Int) := by rw [wrap_id (by omega) (by omega)]; omega
    by_cases h : a < ((rs.getD n z83).f1.length : Int)
    · rw [if_pos (by omega)]
      refine Ev.step (f := fun _ => some (-1)) (fun k => ?_) (Ev.now _)
      simp only [laws_szRowS.l0]
      rw [if_pos (by omega), if_pos (by omega), rdA, szRow_is _ _ a h0 h1 hgl, if_pos h]
      rfl
    · have h2 := ih (n + 1) (a - (rs.getD n z83).f1.length) (by omega) (by omega) (by omega) (by omega)
      have e : (if a < shT (rs.drop n) then (-1 : Int) else a - shT (rs.drop n)) = if a - ((rs.getD n z83).f1.length : Int) < shT (rs.drop (n + 1)) then -1 else a - ((rs.getD n z83).f1.length : Int) - shT (rs.drop (n + 1)) := by
        rw [ht]
        by_cases h3 : a - ((rs.getD n z83).f1.length : Int) < shT (rs.drop (n + 1))
        · rw [if_pos h3, if_pos (by omega)]
        · rw [if_neg h3, if_neg (by omega)]; omega
      rw [e]
      refine Ev.step (fun k => ?_) h2
      simp only [laws_szRowS.l0]
      rw [if_pos (by omega), if_pos (by omega), rdA, szRow_is _ _ a h0 h1 hgl, if_neg h]
      simp only [Option.bind_some]
      rw [if_neg (by omega), hw]
theorem szRowS_is (rs : List LRow) (hl : rs.length ≤ 9223372036854775807) (hg : ∀ g ∈ rs, g.f1.length ≤ 9223372036854775807) (a : Int) (h0 : 0 ≤ a) (h1 : a ≤ 1048576) :
    Ev (fun k => laws_szRowS.f k rs a) (if a < ((rs.length + shT rs : Nat) : Int) then -1 else a - ((rs.length + shT rs : Nat) : Int)) := by
  have e : wrap64 (a - (rs.length : Int)) = a - rs.length := wrap_id (by omega) (by omega)
  unfold laws_szRowS.f
  rw [e]
  by_cases h : a - (rs.length : Int) < 0
  · rw [if_pos (by omega)]
    simp only [if_pos h]
    exact Ev.now _
  · simp only [if_neg h]
    have := szRowS_loop rs hl hg rs.length 0 (a - rs.length) (by omega) (by omega) (by omega) (by omega)
    rw [List.drop_zero] at this
    have e2 : (if a < ((rs.length + shT rs : Nat) : Int) then (-1 : Int) else a - ((rs.length + shT rs : Nat) : Int)) = if a - (rs.length : Int) < shT rs then -1 else a - (rs.length : Int) - shT rs := by
      by_cases h3 : a - (rs.length : Int) < shT rs
      · rw [if_pos h3, if_pos (by omega)]
      · rw [if_neg h3, if_neg (by omega)]; omega
    rw [e2]
    exact this
theorem szTable_is (n : Int) (sz : List Int) (rs : List LRow) (hz : sz.length ≤ 9223372036854775807) (hl : rs.length ≤ 9223372036854775807) (hg : ∀ g ∈ rs, g.f1.length ≤ 9223372036854775807) (a : Int) (h0 : 0 ≤ a) (h1 : a ≤ 1048576) :
    Ev (fun k => laws_szTable.f k n sz rs a) (if a < sizeT sz rs then -1 else a - sizeT sz rs) := by
  unfold laws_szTable.f sizeT
  rw [szS_is sz a h0 h1 hz]
  simp only [Option.bind_some]
  by_cases h : a < (sz.length : Int)
  · simp only [if_pos h, if_pos (show (-1 : Int) < 0 by omega), if_pos (show a < ((sz.length + (rs.length + shT rs) : Nat) : Int) by omega)]
    exact Ev.now _
  · simp only [if_neg h, if_neg (show ¬ a - (sz.length : Int) < 0 by omega)]
    refine Ev.bind (szRowS_is rs hl hg (a - sz.length) (by omega) (by omega)) ?_
    by_cases h3 : a - (sz.length : Int) < ((rs.length + shT rs : Nat) : Int)
    · simp only [if_pos h3, if_pos (show (-1 : Int) < 0 by omega), if_pos (show a < ((sz.length + (rs.length + shT rs) : Nat) : Int) by omega)]
      exact Ev.now _
    · simp only [if_neg h3, if_neg (show ¬ a < ((sz.length + (rs.length + shT rs) : Nat) : Int) by omega), if_neg (show ¬ a - (sz.length : Int) - ((rs.length + shT rs : Nat) : Int) < 0 by omega)]
      rw [show a - (sz.length : Int) - ((rs.length + shT rs : Nat) : Int) = a - ((sz.length + (rs.length + shT rs) : Nat) : Int) by omega]
      exact Ev.now _

/-! ### copies -/
theorem toRowS_loop (rs : List LRow) (hl : rs.length ≤ 1048576) (hg : ∀ g ∈ rs, g.f1.length ≤ 1048576) : ∀ (d n : Nat) (y : List Row), y.length = rs.length → n ≤ rs.length → rs.length - n = d → y.take n = (rs.map toR).take n →
    Ev (fun k => laws_toRowS.l0 k rs y (n : Int)) (rs.map toR) := by
  intro d
  induction d with
  | zero =>
    intro n y hy hn hd ht
    obtain rfl : n = rs.length := by omega
    rw [List.take_of_length_le (by omega), List.take_of_length_le (by simp)] at ht
    refine Ev.step (f := fun _ => some y) (fun k => by simp only [laws_toRowS.l0]; rw [if_neg (by omega)]) ?_
    rw [ht]; exact Ev.now _
  | succ d ih =>
    intro n y hy hn hd ht
    have hlt : n < rs.length := by omega
    have hgl : (rs.getD n z83).f1.length ≤ 1048576 := by rw [getA hlt]; exact hg _ (List.getElem_mem hlt)
    have hw : wrap64 ((n : Int) + 1) = ((n + 1 : Nat) : Int) := by rw [wrap_id (by omega) (by omega)]; omega
    have h2 := ih (n + 1) (y.set n (toR (rs.getD n z83))) (by rw [List.length_set]; exact hy) (by omega) (by omega) (by
      rw [List.take_succ_eq_append_getElem (by rw [List.length_set]; omega), List.take_succ_eq_append_getElem (by simpa using hlt), List.take_set_of_le (by omega), ht]
      congr 1
      simp [List.getD, List.getElem?_eq_getElem hlt])
    refine Ev.step (f := fun k => (laws_toRow.f k (rs.getD n z83).f0 (rs.getD n z83).f1).bind fun t => if (n : Int) < (y.length : Int) then laws_toRowS.l0 k rs (y.set (n : Int).toNat (⟨t.1, t.2⟩ : Row)) (wrap64 ((n : Int) + 1)) else none) (fun k => by
      simp only [laws_toRowS.l0]
      rw [if_pos (by omega), if_pos (by omega), rdA]) ?_
    refine Ev.bind (a := ((rs.getD n z83).f0, (rs.getD n z83).f1)) ⟨(rs.getD n z83).f1.length + 1, fun k hk => by show (laws_toInt64S.f k _).bind _ = _; rw [toS_is _ k hgl (by omega)]; rfl⟩ ?_
    rw [hw, Int.toNat_natCast]
    exact h2.congr (fun k => by rw [if_pos (by omega)]; rfl)
theorem toRowS_is (rs : List LRow) (hl : rs.length ≤ 1048576) (hg : ∀ g ∈ rs, g.f1.length ≤ 1048576) : Ev (fun k => laws_toRowS.f k rs) (rs.map toR) := by
  unfold laws_toRowS.f
  refine (toRowS_loop rs hl hg rs.length 0 (List.replicate ((rs.length : Int) : Int).toNat zW) (by simp) (by omega) (by omega) (by simp)).congr (fun k => ?_)
  rw [if_pos (by omega), if_pos (by omega)]
  rfl
theorem toTable_is (n : Int) (sz : List Int) (rs : List LRow) (hz : sz.length ≤ 1048576) (hl : rs.length ≤ 1048576) (hg : ∀ g ∈ rs, g.f1.length ≤ 1048576) : Ev (fun k => laws_toTable.f k n sz rs) (n, sz, rs.map toR) := by
  unfold laws_toTable.f
  refine Ev.bind (a := sz) ⟨sz.length + 1, fun k hk => toS_is _ k hz (by omega)⟩ ?_
  refine Ev.bind (toRowS_is rs hl hg) ?_
  exact Ev.now _

/-! ### comparisons -/
theorem eqRow_is (a b : Row) (hb : a.f1.length ≤ 9223372036854775807) : Ev (fun k => laws_eqRow.f k a.f0 a.f1 b.f0 b.f1) (decide (a = b)) := by
  unfold laws_eqRow.f
  by_cases h0 : a.f0 = b.f0
  · simp only [if_pos h0]
    refine Ev.bind (a := decide (a.f1 = b.f1)) ⟨a.f1.length + 1, fun k hk => eqS_is _ _ k hb (by omega)⟩ ?_
    by_cases h1 : a.f1 = b.f1
    · rw [decide_eq_true h1, decide_eq_true ((row_ext a b).2 ⟨h0, h1⟩)]
      exact Ev.now _
    · rw [decide_eq_false h1, decide_eq_false (fun h => h1 ((row_ext a b).1 h).2)]
      exact Ev.now _
  · simp only [if_neg h0]
    rw [decide_eq_false (fun h => h0 ((row_ext a b).1 h).1)]
    exact Ev.now _
theorem eqRowS_loop (a b : List Row) (hl : a.length = b.length) (hb : a.length ≤ 9223372036854775807) (hg : ∀ g ∈ a, g.f1.length ≤ 9223372036854775807) :
    ∀ (d i : Nat), i ≤ a.length → a.length - i = d → Ev (fun k => laws_eqRowS.l0 k a b (i : Int)) (decide (a.drop i = b.drop i)) := by
  intro d
  induction d with
  | zero =>
    intro i hi hd
    obtain rfl : i = a.length := by omega
    refine Ev.step (f := fun _ => some true) (fun k => by simp only [laws_eqRowS.l0]; rw [if_neg (by omega)]) ?_
    rw [List.drop_length, hl, List.drop_length, decide_eq_true rfl]
    exact Ev.now true
  | succ d ih =>
    intro i hi hd
    have hlt : i < a.length := by omega
    have hE := eqRow_is (a.getD i zW) (b.getD i zW) (by rw [getB hlt]; exact hg _ (List.getElem_mem _))
    refine Ev.step (f := fun k => (laws_eqRow.f k (a.getD i zW).f0 (a.getD i zW).f1 (b.getD i zW).f0 (b.getD i zW).f1).bind fun t => if t = true then laws_eqRowS.l0 k a b (wrap64 ((i : Int) + 1)) else some false) (fun k => by
      simp only [laws_eqRowS.l0]
      rw [if_pos (by omega), if_pos (by omega), if_pos (by omega), rdB, rdB]) (Ev.bind hE ?_)
    have hs : a.drop i = b.drop i ↔ a.getD i zW = b.getD i zW ∧ a.drop (i + 1) = b.drop (i + 1) := by
      rw [List.drop_eq_getElem_cons hlt, List.drop_eq_getElem_cons (show i < b.length by omega), getB hlt, getB (show i < b.length by omega), List.cons.injEq]
    have h1 := ih (i + 1) (by omega) (by omega)
    rw [show ((i + 1 : Nat) : Int) = wrap64 ((i : Int) + 1) from by rw [wrap_id (by omega) (by omega)]; omega] at h1
    by_cases h : a.getD i zW = b.getD i zW
    · rw [decide_eq_true h, show decide (a.drop i = b.drop i) = decide (a.drop (i + 1) = b.drop (i + 1)) from decide_eq_decide.2 (hs.trans ⟨fun h' => h'.2, fun h' => ⟨h, h'⟩⟩)]
      simpa using h1
    · rw [decide_eq_false h, show decide (a.drop i = b.drop i) = false from decide_eq_false (fun h' => h (hs.1 h').1)]
      simpa using Ev.now false
theorem eqRowS_is (a b : List Row) (hb : a.length ≤ 9223372036854775807) (hg : ∀ g ∈ a, g.f1.length ≤ 9223372036854775807) : Ev (fun k => laws_eqRowS.f k a b) (decide (a = b)) := by
  unfold laws_eqRowS.f
  by_cases hl : a.length = b.length
  · have := eqRowS_loop a b hl hb hg a.length 0 (by omega) (by omega)
    rw [List.drop_zero, List.drop_zero] at this
    exact this.congr (fun k => by rw [if_pos (by omega)]; rfl)
  · rw [show decide (a = b) = false from decide_eq_false (fun h => hl (by rw [h]))]
    refine Ev.congr (f := fun _ => some false) (fun k => by rw [if_neg (by omega)]) (Ev.now _)
theorem eqTable_is (n m : Int) (sz sz' : List Int) (a b : List Row) (hz : sz.length ≤ 9223372036854775807) (hb : a.length ≤ 9223372036854775807) (hg : ∀ g ∈ a, g.f1.length ≤ 9223372036854775807) : Ev (fun k => laws_eqTable.f k n sz a m sz' b) (decide (n = m ∧ sz = sz' ∧ a = b)) := by
  unfold laws_eqTable.f
  by_cases h0 : n = m
  · simp only [if_pos h0]
    refine Ev.bind (a := decide (sz = sz')) ⟨sz.length + 1, fun k hk => eqS_is _ _ k hz (by omega)⟩ ?_
    by_cases h1 : sz = sz'
    · simp only [decide_eq_true h1, if_true]
      refine Ev.bind (eqRowS_is a b hb hg) ?_
      by_cases h2 : a = b
      · rw [decide_eq_true h2, decide_eq_true ⟨h0, h1, h2⟩]
        exact Ev.now _
      · rw [decide_eq_false h2, decide_eq_false (fun h => h2 h.2.2)]
        exact Ev.now _
    · rw [decide_eq_false h1, decide_eq_false (fun h => h1 h.2.1)]
      exact Ev.now _
  · simp only [if_neg h0]
    rw [decide_eq_false (fun h => h0 h.1)]
    exact Ev.now _

/-! ### marks, held -/
theorem getD_mark (rs : List Row) (k0 : Int) (i : Nat) (hi : i < rs.length) : (markT rs k0).getD i zW = ⟨k0 + totT (rs.take i), upL (rs.getD i zW).f1.length (k0 + totT (rs.take i) + 1)⟩ := by
  have h := set_markT rs k0 i hi
  have hm : markT rs k0 = markT (rs.take (i + 1)) k0 ++ markT (rs.drop (i + 1)) (k0 + totT (rs.take (i + 1))) := by rw [← markT_append, List.take_append_drop]
  have hl : (markT (rs.take i) k0).length = i := by rw [markT_len, List.length_take]; omega
  rw [hm, List.take_succ_eq_append_getElem hi, markT_append, List.getD_eq_getElem?_getD, List.append_assoc, List.getElem?_append_right (by omega), hl, Nat.sub_self]
  simp [markT, List.getD, hi]
theorem heldRowS_loop (rs : List Row) (k0 : Int) (h0 : 0 ≤ k0) (hk0 : k0 + totT rs < 9223372036854775807) (hl : rs.length ≤ 9223372036854775807) : ∀ (d i : Nat), i ≤ rs.length → rs.length - i = d →
    Ev (fun k => laws_heldRowS.l0 k (markT rs k0) (k0 + totT (rs.take i)) (i : Int)) (k0 + totT rs) := by
  intro d
  induction d with
  | zero =>
    intro i hi hd
    obtain rfl : i = rs.length := by omega
    rw [List.take_length]
    exact Ev.step (f := fun _ => some (k0 + (totT rs : Int))) (fun k => by simp only [laws_heldRowS.l0]; rw [if_neg (by rw [markT_len]; omega)]) (Ev.now _)
  | succ d ih =>
    intro i hi hd
    have hlt : i < rs.length := by omega
    have h1 := ih (i + 1) (by omega) (by omega)
    have hle := len_le_totT hlt
    have hsucc := totT_take_succ hlt
    have hw : wrap64 ((i : Int) + 1) = ((i + 1 : Nat) : Int) := by rw [wrap_id (by omega) (by omega)]; omega
    have hw2 : wrap64 (k0 + (totT (rs.take i) : Int) + 1) = k0 + (totT (rs.take i) : Int) + 1 := wrap_id (by omega) (by omega)
    have hH := heldS_is (rs.getD i zW).f1.length (k0 + (totT (rs.take i) : Int) + 1) (by omega) (by omega)
    refine Ev.step (f := fun k => (laws_heldInt64S.f k (upL (rs.getD i zW).f1.length (k0 + (totT (rs.take i) : Int) + 1)) (k0 + (totT (rs.take i) : Int) + 1)).bind fun t204 => if t204 < 0 then some (-1) else laws_heldRowS.l0 k (markT rs k0) t204 ((i + 1 : Nat) : Int)) (fun k => ?_) (Ev.bind hH ?_)
    · simp only [laws_heldRowS.l0]
      rw [if_pos (by rw [markT_len]; omega), if_pos (by omega), rdB, getD_mark rs k0 i hlt]
      simp only [if_true]
      rw [hw, hw2]
    · simp only [if_neg (show ¬ k0 + (totT (rs.take i) : Int) + 1 + ((rs.getD i zW).f1.length : Int) < 0 by omega)]
      rw [show k0 + (totT (rs.take i) : Int) + 1 + ((rs.getD i zW).f1.length : Int) = k0 + (totT (rs.take (i + 1)) : Int) by omega]
      exact h1
theorem heldRowS_is (rs : List Row) (k0 : Int) (h0 : 0 ≤ k0) (hk0 : k0 + totT rs < 9223372036854775807) (hl : rs.length ≤ 9223372036854775807) : Ev (fun k => laws_heldRowS.f k (markT rs k0) k0) (k0 + totT rs) := by
  have := heldRowS_loop rs k0 h0 hk0 hl rs.length 0 (by omega) (by omega)
  show Ev (fun k => laws_heldRowS.l0 k (markT rs k0) k0 0) _
  simpa [totT] using this
theorem heldTable_is (n : Int) (sz : List Int) (rs : List Row) (k0 : Int) (h0 : 0 ≤ k0) (hk0 : k0 + sz.length + totT rs < 9223372036854775807) (hl : rs.length ≤ 9223372036854775807) : Ev (fun k => laws_heldTable.f k n (upL sz.length k0) (markT rs (k0 + sz.length)) k0) (k0 + sz.length + totT rs) := by
  unfold laws_heldTable.f
  refine Ev.bind (heldS_is sz.length k0 h0 (by omega)) ?_
  simp only [if_neg (show ¬ k0 + (sz.length : Int) < 0 by omega)]
  refine Ev.bind (heldRowS_is rs (k0 + sz.length) (by omega) hk0 hl) ?_
  simp only [if_neg (show ¬ k0 + (sz.length : Int) + (totT rs : Int) < 0 by omega)]
  exact Ev.now _

end Go.Proofs.Ytdahdeohmbadhaa.ExT
