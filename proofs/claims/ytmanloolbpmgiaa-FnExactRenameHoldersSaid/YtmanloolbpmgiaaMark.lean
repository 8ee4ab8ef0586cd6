/- What the exact laws' marks do to rows of rows: they write into the rows that were handed over, and into nothing else. -/
import Derived.Test.YtmanloolbpmgiaaEx2
import Derived.Test.YtmanloolbpmgiaaEx2
import Derived.Test.YtmanloolbpmgiaaEx2
import Derived.Test.YtmanloolbpmgiaaEx1
import Derived.Test.YtmanloolbpmgiaaEx1
import Derived.Test.YtmanloolbpmgiaaFam
namespace Go.Proofs.Ytmanloolbpmgiaa.Mark
open Go.RowKit Go.Lib Go.Proofs Go.Proofs.YtmanloolbpmgiaaW.PrintWords Go.Proofs.YtmanloolbpmgiaaW.PrintWords.Kd Go.Proofs.YtmanloolbpmgiaaW.PrintLast Go.Proofs.YtmanloolbpmgiaaW.PrintMore Go.Proofs.Ytmanloolbpmgiaa.E Go.Proofs.Ytmanloolbpmgiaa.Loops
set_option linter.unusedVariables false
set_option linter.unusedSimpArgs false

/-- Numbers from k on. -/
def upL : Nat → Int → List Int
  | 0, _ => []
  | n + 1, k => k :: upL n (k + 1)
theorem upL_len : ∀ n k, (upL n k).length = n
  | 0, _ => rfl
  | n + 1, k => by simp [upL, upL_len n]
theorem upL_get : ∀ (n : Nat) (k : Int) (i : Nat), i < n → (upL n k).getD i 0 = k + i
  | 0, _, _, h => absurd h (Nat.not_lt_zero _)
  | n + 1, k, 0, _ => by simp [upL]
  | n + 1, k, i + 1, h => by
    have := upL_get n (k + 1) i (by omega)
    simp only [upL, List.getD_cons_succ, this]
    omega
/-- How many numbers rows have. -/
def total : List (List Int) → Nat
  | [] => 0
  | g :: gs => g.length + total gs
/-- Rows, their numbers marked from k on. -/
def markG : List (List Int) → Int → List (List Int)
  | [], _ => []
  | g :: gs, k => upL g.length k :: markG gs (k + g.length)
theorem markG_len : ∀ gs k, (markG gs k).length = gs.length
  | [], _ => rfl
  | g :: gs, k => by simp [markG, markG_len gs]
theorem total_append : ∀ a b, total (a ++ b) = total a + total b
  | [], b => by simp [total]
  | g :: a, b => by simp [total, total_append a b]; omega
theorem markG_append : ∀ a b k, markG (a ++ b) k = markG a k ++ markG b (k + total a)
  | [], b, k => by simp [markG, total]
  | g :: a, b, k => by
    simp only [List.cons_append, markG, markG_append a b, total]
    rw [show k + (g.length : Int) + (total a : Int) = k + ((g.length + total a : Nat) : Int) by omega]
theorem total_take_le (gs : List (List Int)) (i : Nat) : total (gs.take i) ≤ total gs := by
  have := total_append (gs.take i) (gs.drop i)
  rw [List.take_append_drop] at this
  omega
theorem total_take_succ {gs : List (List Int)} {i : Nat} (h : i < gs.length) : total (gs.take (i + 1)) = total (gs.take i) + (gs.getD i []).length := by
  rw [List.take_succ_eq_append_getElem h, total_append]
  simp [total, List.getD, h]
theorem len_le_total {gs : List (List Int)} {i : Nat} (h : i < gs.length) : total (gs.take i) + (gs.getD i []).length ≤ total gs := by
  rw [← total_take_succ h]; exact total_take_le _ _

/-! ### one row -/
theorem mark_loop (l : List Int) (hl : l.length ≤ 9223372036854775807) (k0 : Int) (h0 : 0 ≤ k0) (hk0 : k0 + l.length < 9223372036854775807) : ∀ (d n : Nat), n ≤ l.length → l.length - n = d →
    Ev (fun k => laws_markInt64S.l0 k (upL n k0 ++ l.drop n) (k0 + n) (n : Int)) (k0 + l.length, upL l.length k0) := by
  intro d
  induction d with
  | zero =>
    intro n hn hd
    obtain rfl : n = l.length := by omega
    refine Ev.step (f := fun _ => some (k0 + (l.length : Int), upL l.length k0 ++ l.drop l.length)) (fun k => by
      simp only [laws_markInt64S.l0]
      rw [if_neg (by simp [upL_len])]) ?_
    rw [List.drop_length, List.append_nil]
    exact Ev.now _
  | succ d ih =>
    intro n hn hd
    have hlt : n < l.length := by omega
    have h1 := ih (n + 1) (by omega) (by omega)
    refine Ev.step (fun k => ?_) h1
    simp only [laws_markInt64S.l0]
    rw [if_pos (by simp [upL_len]; omega), if_pos (by omega), wrap_id (by omega) (by omega), wrap_id (by omega) (by omega)]
    have hs : (upL n k0 ++ l.drop n).set ((n : Int)).toNat (k0 + (n : Int)) = upL (n + 1) k0 ++ l.drop (n + 1) := by
      rw [Int.toNat_natCast]
      apply List.ext_getElem?
      intro j
      have hul : ∀ j, j < n + 1 → (upL (n + 1) k0)[j]? = some (k0 + j) := fun j hj => by
        have h1 := upL_get (n + 1) k0 j hj
        rw [List.getD_eq_getElem?_getD, List.getElem?_eq_getElem (by rw [upL_len]; exact hj)] at h1
        rw [List.getElem?_eq_getElem (by rw [upL_len]; exact hj)]
        simpa using h1
      have hul0 : ∀ j, j < n → (upL n k0)[j]? = some (k0 + j) := fun j hj => by
        have h1 := upL_get n k0 j hj
        rw [List.getD_eq_getElem?_getD, List.getElem?_eq_getElem (by rw [upL_len]; exact hj)] at h1
        rw [List.getElem?_eq_getElem (by rw [upL_len]; exact hj)]
        simpa using h1
      rw [List.getElem?_set]
      by_cases e : n = j
      · subst e
        rw [if_pos rfl, if_pos (by simp [upL_len]; omega), List.getElem?_append_left (by rw [upL_len]; omega), hul n (by omega)]
      · rw [if_neg e]
        by_cases hj : j < n
        · rw [List.getElem?_append_left (by rw [upL_len]; omega), List.getElem?_append_left (by rw [upL_len]; omega), hul j (by omega), hul0 j hj]
        · rw [List.getElem?_append_right (by rw [upL_len]; omega), List.getElem?_append_right (by rw [upL_len]; omega), upL_len, upL_len, List.getElem?_drop, List.getElem?_drop]
          congr 1
          omega
    rw [hs]
    congr 1
    omega
theorem mark_is (l : List Int) (hl : l.length ≤ 9223372036854775807) (k0 : Int) (h0 : 0 ≤ k0) (hk0 : k0 + l.length < 9223372036854775807) : Ev (fun k => laws_markInt64S.f k l k0) (k0 + l.length, upL l.length k0) := by
  have := mark_loop l hl k0 h0 hk0 l.length 0 (by omega) (by omega)
  show Ev (fun k => laws_markInt64S.l0 k l k0 0) _
  simpa [upL] using this

/-! ### rows of rows -/
/-- Rows of numbers. -/
abbrev dR : Kd (List Int) := Kd.slice 2 (Kd.int .i64)

theorem row_lent {W : World} {base g n cap : Nat} {ok : Nat → Prop} {gs : List (List Int)} (h : Kd.S dR 28 W base ok (.slice (some ⟨g, 0, none⟩) n cap) gs) (i : Nat) (hi : i < n) :
    ∃ (oki : Nat → Prop) (v : Value), W.cell? ⟨g, i, none⟩ = some v ∧ Kd.R (Kd.int .i64) 2 W base oki v (gs.getD i []) ∧ (∀ k, oki k → ok k ∧ k ≠ g) ∧
      ∀ (W' : World) (l' : List Int), Kept W W' oki → Kd.R (Kd.int .i64) 2 W' base oki v l' → Kd.S dR 28 W' base ok (.slice (some ⟨g, 0, none⟩) n cap) (gs.set i l') := by
  obtain ⟨oki, c, hcl, ⟨v, rfl, hR⟩, hcell, hoki, hH⟩ := S_lend h [] (i : Int) (by omega) (by omega)
  rw [Int.toNat_natCast] at hR hcell
  have h0 := hcell 0 v rfl
  refine ⟨oki, v, by simpa [show dR.sz = 1 from rfl] using h0, hR, hoki, fun W' l' hk hR' => ?_⟩
  have hH' := H_step (w1 := W') hH (fun k _ hn hlt => hk.2 k hlt hn)
  have := H_back hH' (x' := l') (okp := oki) ⟨v, rfl, hR'⟩ (fun _ hk => hk)
  rwa [Int.toNat_natCast] at this

theorem set_markG (gs : List (List Int)) (k0 : Int) (i : Nat) (hi : i < gs.length) :
    (markG (gs.take i) k0 ++ gs.drop i).set i (upL (gs.getD i []).length (k0 + total (gs.take i))) = markG (gs.take (i + 1)) k0 ++ gs.drop (i + 1) := by
  have hl : (markG (gs.take i) k0).length = i := by rw [markG_len, List.length_take]; omega
  rw [List.take_succ_eq_append_getElem hi, markG_append, List.drop_eq_getElem_cons hi, List.set_append_right _ _ (by omega), hl, Nat.sub_self, List.set_cons_zero]
  simp [markG, List.getD, hi]
theorem getD_markG (gs : List (List Int)) (k0 : Int) (i : Nat) (hi : i < gs.length) : (markG (gs.take i) k0 ++ gs.drop i).getD i [] = gs.getD i [] := by
  have hl : (markG (gs.take i) k0).length = i := by rw [markG_len, List.length_take]; omega
  rw [List.getD_eq_getElem?_getD, List.getElem?_append_right (by omega), hl, Nat.sub_self, List.getElem?_drop, Nat.add_zero, ← List.getD_eq_getElem?_getD]

theorem markS_calls (P : Nat → Prop) (v : Value) (l : List Int) (k0 : Int) (h0 : 0 ≤ k0) (hk0 : k0 + l.length < 9223372036854775807) (w0 w : World) (hB : Below w0.heap.size w0 w) (hR : Kd.R (Kd.int .i64) 2 w w0.heap.size P v l) :
    Calls Try.prog 39 #[v, .int .i64 k0] w fun e w' => e = .returned (.int .i64 (k0 + l.length)) ∧ Kd.R (Kd.int .i64) 2 w' w0.heap.size P v (upL l.length k0) ∧ Below w0.heap.size w0 w' ∧ Kept w w' P := by
  obtain ⟨A, c, rfl, hc, hC⟩ := R_reads hR
  obtain ⟨k, hk⟩ := (mark_is l hC.2.1 k0 h0 hk0).rounds
  refine (laws_markInt64S.calls k P _ l k0 _ _ w0 w hB hR hk).mono fun e w' ⟨he, hr, hb, hkp⟩ => ⟨he, ?_, hb, hkp⟩
  refine R_mono (R_tight rfl hr) (fun k hk => hR.1 k hk.symm)

set_option maxHeartbeats 2000000 in
set_option maxRecDepth 100000 in
theorem markSS_calls (P : Nat → Prop) (v : Value) (gs : List (List Int)) (k0 : Int) (h0 : 0 ≤ k0) (hk0 : k0 + total gs < 9223372036854775807) (w0 w : World) (hB : Below w0.heap.size w0 w) (hS : Kd.S dR 28 w w0.heap.size P v gs) :
    Calls Try.prog 44 #[v, .int .i64 k0] w fun e w' => e = .returned (.int .i64 (k0 + total gs)) ∧ Kd.S dR 28 w' w0.heap.size P v (markG gs k0) ∧ Below w0.heap.size w0 w' ∧ Kept w w' P := by
  obtain ⟨A, cap, rfl, hcap, hC⟩ := S_reads hS
  have hbig : gs.length ≤ 9223372036854775807 := hC.2.1
  by_cases hgs : gs = []
  · subst hgs
    have HS := Aside0.mk hS
    have HB := Aside0.mk hB
    clear hS hB hC hcap hbig hk0 h0
    go_enter Try.func44, Try.ntmps44
    go_wp2
    go_loopg [1, 5] 1 (fun gg v1 v5 wr => v1 = .int .i64 k0 ∧ v5 = .int .i64 0 ∧ wr = w)
    case atStart => exact ⟨rfl, rfl, rfl⟩
    case round =>
      obtain ⟨rfl, rfl, rfl⟩ := hrel
      go_wp2
      go_ret
      exact ⟨by simp [total], HS.out, HB.out, Kept.refl _ _⟩
  have hpos : 0 < gs.length := List.length_pos_iff.2 hgs
  obtain ⟨g, cap', he, _⟩ := S_form hS hpos
  obtain ⟨rfl, rfl⟩ : A = some ⟨g, 0, none⟩ ∧ cap = cap' := by injection he with h1 h2 h3; exact ⟨h1, h3⟩
  clear he hC hgs
  have HS := Aside0.mk hS
  have HB := Aside0.mk hB
  have HT := Aside0.mk hk0
  clear hS hB hk0
  generalize hL : gs.length = L at *
  have HL := Aside0.mk hL
  clear hL
  go_enter Try.func44, Try.ntmps44
  go_wp2
  go_loopg [1, 5] L (fun gg v1 v5 wr => ∃ i : Nat, i ≤ L ∧ L - i ≤ gg ∧ v1 = .int .i64 (k0 + (total (gs.take i) : Int)) ∧ v5 = .int .i64 (i : Int) ∧ Aside0 (Kd.S dR 28 wr w0.heap.size P (.slice (some ⟨g, 0, none⟩) L cap) (markG (gs.take i) k0 ++ gs.drop i)) ∧ Aside0 (Below w0.heap.size w0 wr) ∧ Aside0 (Kept w wr P))
  case atStart => exact ⟨0, Nat.zero_le _, by omega, by simp [total], rfl, ⟨by simpa [markG] using HS.out⟩, HB, ⟨Kept.refl _ _⟩⟩
  case round =>
    clear HS HB
    obtain ⟨i, hi, hgg, rfl, rfl, HS, HB, HK⟩ := hrel
    by_cases hlt : i < L
    · have hltz : (i : Int) < (L : Int) := by omega
      have hig : i < gs.length := by rw [HL.out]; exact hlt
      obtain ⟨oki, vi, hcell, hR, hoki, hback⟩ := row_lent HS.out i hlt
      rw [getD_markG gs k0 i hig] at hR
      have hle := len_le_total hig
      have hsucc := total_take_succ hig
      have hset := set_markG gs k0 i hig
      have HM := markS_calls oki vi (gs.getD i []) (k0 + (total (gs.take i) : Int)) (by omega) (by have := HT.out; omega) w0 wr HB.out hR
      obtain ⟨Ai, ci, rfl⟩ := R_slice hR
      have HBK := Aside0.mk hback
      have HOK := Aside0.mk hoki
      have HSU := Aside0.mk hsucc
      have HST := Aside0.mk hset
      clear hback hoki hsucc hset hle hR
      generalize gs.getD i [] = x at *
      generalize hti : k0 + (total (gs.take i) : Int) = ki at *
      have HTI := Aside0.mk hti
      clear hti
      go_wp2_with (go_at_call 39; refine HM.mono ?_; rintro e w1 ⟨rfl, hr1, hb1, hk1⟩; have HR1 := Aside0.mk hr1; have HB1 := Aside0.mk hb1; have HK1 := Aside0.mk hk1; clear hr1 hb1 hk1)
      go_roundg (L - (i + 1))
      case measure => omega
      case rel =>
        refine ⟨i + 1, by omega, by omega, ?_, by go_num, ⟨?_⟩, HB1, ⟨HK.out.then_ HK1.out (fun k hk => .inl (HOK.out k hk).1)⟩⟩
        · rw [HSU.out, ← HTI.out]
          go_num
        · have := HBK.out w1 _ HK1.out HR1.out
          rw [HST.out] at this
          exact this
    · have hltz : ¬ (i : Int) < (L : Int) := by omega
      obtain rfl : i = L := by omega
      go_wp2
      go_ret
      have ht : gs.take i = gs := by rw [← HL.out, List.take_length]
      have hd : gs.drop i = [] := by rw [← HL.out, List.drop_length]
      have hs := HS.out
      rw [ht, hd, List.append_nil] at hs
      exact ⟨by rw [ht]; rfl, hs, HB.out, HK.out⟩

set_option maxHeartbeats 2000000 in
theorem markF_calls (P : Nat → Prop) (n : Int) (v : Value) (gs : List (List Int)) (k0 : Int) (h0 : 0 ≤ k0) (hk0 : k0 + total gs < 9223372036854775807) (w0 w : World) (hB : Below w0.heap.size w0 w) (hS : Kd.S dR 28 w w0.heap.size P v gs) (hP : ∀ k, P k → k < w.heap.size) :
    Calls Try.prog 38 #[.agg #[.int .i64 n, v], .int .i64 k0] w fun e w' => e = .returned (.int .i64 (k0 + total gs)) ∧ Kd.S dR 28 w' w0.heap.size P v (markG gs k0) ∧ Below w0.heap.size w0 w' ∧ Kept w w' P := by
  have hu := Try.underlying26
  have HM := markSS_calls P v gs k0 h0 hk0 w0 (w.alloc (.cells #[.int .i64 n, v] 26)) (hB.alloc hB.size _) (S_alloc hS _)
  obtain ⟨A, cap, rfl⟩ := S_slice hS
  clear hS hB
  go_enter Try.func38, Try.ntmps38
  go_wp2_with (go_at_call 44; refine HM.mono ?_; rintro e w1 ⟨rfl, hr1, hb1, hk1⟩; have HR1 := Aside0.mk hr1; have HB1 := Aside0.mk hb1; have HK1 := Aside0.mk hk1; clear hr1 hb1 hk1)
  go_ret
  exact ⟨rfl, HR1.out, HB1.out, ((Kept.refl w P).alloc _).then_ HK1.out (fun k hk => .inl hk)⟩

end Go.Proofs.Ytmanloolbpmgiaa.Mark
