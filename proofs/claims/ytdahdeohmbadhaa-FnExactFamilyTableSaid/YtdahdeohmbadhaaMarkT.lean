/- What the exact laws' marks do to a row of numbers: they write into the row that was handed over, and into nothing else. What the exact laws' marks do to the rows of a table: they write into what was handed over, and into nothing else. -/
import Derived.Test.YtdahdeohmbadhaaGx9
import Derived.Test.YtdahdeohmbadhaaFam
import Derived.Test.YtdahdeohmbadhaaWKept
namespace Go.Proofs.Ytdahdeohmbadhaa.Mark
open Go.RowKit Go.Lib Go.Proofs Go.Proofs.YtdahdeohmbadhaaW.PrintWords Go.Proofs.YtdahdeohmbadhaaW.PrintWords.Kd Go.Proofs.YtdahdeohmbadhaaW.PrintLast Go.Proofs.YtdahdeohmbadhaaW.PrintMore Go.Proofs.Ytdahdeohmbadhaa.G Go.Proofs.Ytdahdeohmbadhaa.Loops
set_option linter.unusedVariables false
set_option linter.unusedSimpArgs false

/-- Numbers from k on. -/
def upL : Nat → Int → List Int
 | 0, _ => []
 | n + 1, k => k :: upL n (k + 1)
theorem upL_len : ∀ n k, (upL n k).length = n
 | 0, _ => rfl
 | n + 1, k => by simp [upL, upL_len n]
theorem upL_get : ∀ (n : Nat) (k : Int) (i : Nat), i < n → (upL n k).getD i 0 = k + i
 | 0, _, _, h => absurd h (Nat.not_lt_zero _)
 | n + 1, k, 0, _ => by simp [upL]
 | n + 1, k, i + 1, h => by
  have := upL_get n (k + 1) i (by omega)
  simp only [upL, List.getD_cons_succ, this]
  omega
/-! ### one row -/
theorem mark_loop (l : List Int) (hl : l.length ≤ 9223372036854775807) (k0 : Int) (h0 : 0 ≤ k0) (hk0 : k0 + l.length < 9223372036854775807) : ∀ (d n : Nat), n ≤ l.length → l.length - n = d →
  Ev (fun k => laws_markInt64S.l0 k (upL n k0 ++ l.drop n) (k0 + n) (n : Int)) (k0 + l.length, upL l.length k0) := by
 intro d
 induction d with
 | zero =>
  intro n hn hd
  obtain rfl : n = l.length := by omega
  refine Ev.step (f := fun _ => some (k0 + (l.length : Int), upL l.length k0 ++ l.drop l.length)) (fun k => by
   simp only [laws_markInt64S.l0]
   rw [if_neg (by simp [upL_len])]) ?_
  rw [List.drop_length, List.append_nil]
  exact Ev.now _
 | succ d ih =>
  intro n hn hd
  have hlt : n < l.length := by omega
  have h1 := ih (n + 1) (by omega) (by omega)
  refine Ev.step (fun k => ?_) h1
  simp only [laws_markInt64S.l0]
  rw [if_pos (by simp [upL_len]; omega), if_pos (by omega), wrap_id (by omega) (by omega), wrap_id (by omega) (by omega)]
  have hs : (upL n k0 ++ l.drop n).set ((n : Int)).toNat (k0 + (n : Int)) = upL (n + 1) k0 ++ l.drop (n + 1) := by
   rw [Int.toNat_natCast]
   apply List.ext_getElem?
   intro j
   have hul : ∀ j, j < n + 1 → (upL (n + 1) k0)[j]? = some (k0 + j) := fun j hj => by
    have h1 := upL_get (n + 1) k0 j hj
    rw [List.getD_eq_getElem?_getD, List.getElem?_eq_getElem (by rw [upL_len]; exact hj)] at h1
    rw [List.getElem?_eq_getElem (by rw [upL_len]; exact hj)]
    simpa using h1
   have hul0 : ∀ j, j < n → (upL n k0)[j]? = some (k0 + j) := fun j hj => by
    have h1 := upL_get n k0 j hj
    rw [List.getD_eq_getElem?_getD, List.getElem?_eq_getElem (by rw [upL_len]; exact hj)] at h1
    rw [List.getElem?_eq_getElem (by rw [upL_len]; exact hj)]
    simpa using h1
   rw [List.getElem?_set]
   by_cases e : n = j
   ·
    subst e
    rw [if_pos rfl, if_pos (by simp [upL_len]; omega), List.getElem?_append_left (by rw [upL_len]; omega), hul n (by omega)]
   ·
    rw [if_neg e]
    by_cases hj : j < n
    ·
     rw [List.getElem?_append_left (by rw [upL_len]; omega), List.getElem?_append_left (by rw [upL_len]; omega), hul j (by omega), hul0 j hj]
    ·
     rw [List.getElem?_append_right (by rw [upL_len]; omega), List.getElem?_append_right (by rw [upL_len]; omega), upL_len, upL_len, List.getElem?_drop, List.getElem?_drop]
     congr 1
     omega
  rw [hs]
  congr 1
  omega
theorem mark_is (l : List Int) (hl : l.length ≤ 9223372036854775807) (k0 : Int) (h0 : 0 ≤ k0) (hk0 : k0 + l.length < 9223372036854775807) : Ev (fun k => laws_markInt64S.f k l k0) (k0 + l.length, upL l.length k0) := by
 have := mark_loop l hl k0 h0 hk0 l.length 0 (by omega) (by omega)
 show Ev (fun k => laws_markInt64S.l0 k l k0 0) _
 simpa [upL] using this

theorem markS_calls (P : Nat → Prop) (v : Value) (l : List Int) (k0 : Int) (h0 : 0 ≤ k0) (hk0 : k0 + l.length < 9223372036854775807) (w0 w : World) (hB : Below w0.heap.size w0 w) (hR : Kd.R (Kd.int .i64) 2 w w0.heap.size P v l) :
  Calls Try.prog 23 #[v, .int .i64 k0] w fun e w' => e = .returned (.int .i64 (k0 + l.length)) ∧ Kd.R (Kd.int .i64) 2 w' w0.heap.size P v (upL l.length k0) ∧ Below w0.heap.size w0 w' ∧ Kept w w' P := by
 obtain ⟨A, c, rfl, hc, hC⟩ := R_reads hR
 obtain ⟨k, hk⟩ := (mark_is l hC.2.1 k0 h0 hk0).rounds
 refine (laws_markInt64S.calls k P _ l k0 _ _ w0 w hB hR hk).mono fun e w' ⟨he, hr, hb, hkp⟩ => ⟨he, ?_, hb, hkp⟩
 refine R_mono (R_tight rfl hr) (fun k hk => hR.1 k hk.symm)


end Go.Proofs.Ytdahdeohmbadhaa.Mark

namespace Go.Proofs.Ytdahdeohmbadhaa.MarkT
open Go.RowKit Go.Lib Go.Proofs Go.Proofs.YtdahdeohmbadhaaW.PrintWords Go.Proofs.YtdahdeohmbadhaaW.PrintWords.Kd Go.Proofs.YtdahdeohmbadhaaW.PrintLast Go.Proofs.YtdahdeohmbadhaaW.PrintMore Go.Proofs.Ytdahdeohmbadhaa.G Go.Proofs.Ytdahdeohmbadhaa.Loops Go.Proofs.Ytdahdeohmbadhaa.Mark
set_option linter.unusedVariables false
set_option linter.unusedSimpArgs false

/-- A row of a table: a secret and its shares. -/
abbrev Row := S87
abbrev dW : Kd Row := k87
abbrev zW : Row := z87
theorem row_ext (a b : Row) : a = b ↔ a.f0 = b.f0 ∧ a.f1 = b.f1 := by
 cases a; cases b
 simp
instance rowDec : DecidableEq Row := fun a b => decidable_of_iff (a.f0 = b.f0 ∧ a.f1 = b.f1) (row_ext a b).symm
/-- How many numbers rows have. -/
def totT : List Row → Nat
 | [] => 0
 | r :: rs => 1 + r.f1.length + totT rs
/-- Rows, their numbers marked from k on. -/
def markT : List Row → Int → List Row
 | [], _ => []
 | r :: rs, k => ⟨k, upL r.f1.length (k + 1)⟩ :: markT rs (k + 1 + r.f1.length)
theorem markT_len : ∀ rs k, (markT rs k).length = rs.length
 | [], _ => rfl
 | r :: rs, k => by simp [markT, markT_len rs]
theorem totT_append : ∀ a b, totT (a ++ b) = totT a + totT b
 | [], b => by simp [totT]
 | g :: a, b => by simp [totT, totT_append a b]; omega
theorem markT_append : ∀ a b k, markT (a ++ b) k = markT a k ++ markT b (k + totT a)
 | [], b, k => by simp [markT, totT]
 | g :: a, b, k => by
  simp only [List.cons_append, markT, markT_append a b, totT]
  rw [show k + 1 + (g.f1.length : Int) + (totT a : Int) = k + ((1 + g.f1.length + totT a : Nat) : Int) by omega]
theorem totT_take_le (rs : List Row) (i : Nat) : totT (rs.take i) ≤ totT rs := by
 have := totT_append (rs.take i) (rs.drop i)
 rw [List.take_append_drop] at this
 omega
theorem totT_take_succ {rs : List Row} {i : Nat} (h : i < rs.length) : totT (rs.take (i + 1)) = totT (rs.take i) + 1 + (rs.getD i zW).f1.length := by
 rw [List.take_succ_eq_append_getElem h, totT_append]
 simp [totT, List.getD, h]
 omega
theorem len_le_totT {rs : List Row} {i : Nat} (h : i < rs.length) : totT (rs.take i) + 1 + (rs.getD i zW).f1.length ≤ totT rs := by
 rw [← totT_take_succ h]; exact totT_take_le _ _
theorem set_markT (rs : List Row) (k0 : Int) (i : Nat) (hi : i < rs.length) :
  (markT (rs.take i) k0 ++ rs.drop i).set i ⟨k0 + totT (rs.take i), upL (rs.getD i zW).f1.length (k0 + totT (rs.take i) + 1)⟩ = markT (rs.take (i + 1)) k0 ++ rs.drop (i + 1) := by
 have hl : (markT (rs.take i) k0).length = i := by rw [markT_len, List.length_take]; omega
 rw [List.take_succ_eq_append_getElem hi, markT_append, List.drop_eq_getElem_cons hi, List.set_append_right _ _ (by omega), hl, Nat.sub_self, List.set_cons_zero]
 simp [markT, List.getD, hi]
theorem getD_markT (rs : List Row) (k0 : Int) (i : Nat) (hi : i < rs.length) : (markT (rs.take i) k0 ++ rs.drop i).getD i zW = rs.getD i zW := by
 have hl : (markT (rs.take i) k0).length = i := by rw [markT_len, List.length_take]; omega
 rw [List.getD_eq_getElem?_getD, List.getElem?_append_right (by omega), hl, Nat.sub_self, List.getElem?_drop, Nat.add_zero, ← List.getD_eq_getElem?_getD]

/-- An element, lent to be marked: its secret's cell and its row; what is written goes back. -/
theorem elem_lent {W : World} {base g n cap : Nat} {ok : Nat → Prop} {rs : List Row} (h : Kd.S dW 87 W base ok (.slice (some ⟨g, 0, none⟩) n cap) rs) (i : Nat) (hi : i < n) :
  ∃ (oki : Nat → Prop) (v : Value), W.cell? ⟨g, i * 2, none⟩ = some (.int .i64 (rs.getD i zW).f0) ∧ W.cell? ⟨g, i * 2 + 1, none⟩ = some v ∧ (∀ x : Int, (W.setCell ⟨g, i * 2, none⟩ (.int .i64 x)).cell? ⟨g, i * 2 + 1, none⟩ = some v) ∧
   (∀ u, Kd.R (Kd.int .i64) 2 (W.setCell ⟨g, i * 2, none⟩ u) base oki v (rs.getD i zW).f1) ∧ (∀ k, oki k → ok k ∧ k ≠ g) ∧ ok g ∧
   ∀ (x : Int) (W' : World) (l' : List Int), Kept (W.setCell ⟨g, i * 2, none⟩ (.int .i64 x)) W' oki → Kd.R (Kd.int .i64) 2 W' base oki v l' → Kd.S dW 87 W' base ok (.slice (some ⟨g, 0, none⟩) n cap) (rs.set i ⟨x, l'⟩) := by
 obtain ⟨oki, c, hcl, hM, hcell, hoki, hH⟩ := S_lend h zW (i : Int) (by omega) (by omega)
 rw [Int.toNat_natCast] at hM hcell
 obtain ⟨v, rfl, hR⟩ := k87_openM hM
 have hok : ok g := (S_R h).1 g (by simp [Value.ownBlock])
 have h0 := hcell 0 _ rfl
 have h1 := hcell 1 _ rfl
 rw [show dW.sz = 2 from rfl] at h0 h1
 have hset : ∀ x : Int, W.setCells g (i * dW.sz + 0) [.int .i64 x] = W.setCell ⟨g, i * 2, none⟩ (.int .i64 x) := fun x => rfl
 have hseg : ∀ x : Int, H dW 87 (W.setCell ⟨g, i * 2, none⟩ (.int .i64 x)) base ok (.slice (some ⟨g, 0, none⟩) n cap) rs (i : Int) oki [.int .i64 x, v] := fun x => by
  obtain ⟨h2, h3⟩ := H_seg hH (by omega) (by omega) (seg := [.int .i64 x]) (j := 0) (show 0 + 1 ≤ 2 from by decide) (by simp [Value.oneCell'])
  rw [Int.toNat_natCast, hset] at h2
  exact h2
 refine ⟨oki, v, h0, h1, fun x => ?_, fun u => R_far hR (fun k hk => (hoki k hk).2) u, hoki, hok, fun x W' l' hk hR' => ?_⟩
 ·
  obtain ⟨rows, _, _, _, _, hcc, _⟩ := H_raw (hseg x) (by omega) (by omega)
  have := hcc 1 v rfl
  rwa [Int.toNat_natCast, show dW.sz = 2 from rfl] at this
 ·
  have hH' := H_step (w1 := W') (hseg x) (fun k _ hn hlt => hk.2 k hlt hn)
  have := H_back hH' (x' := (⟨x, l'⟩ : Row)) (okp := oki) (k87_mkM _ _ _ (⟨x, l'⟩ : Row) hR') (fun _ hk => hk)
  rwa [Int.toNat_natCast] at this

theorem kept_set {w : World} {P : Nat → Prop} {g o : Nat} (hP : P g) (u : Value) : Kept w (w.setCell ⟨g, o, none⟩ u) P :=
 ⟨by simp [World.setCell], fun j hj hn => Below.heap_setCell _ _ _ _ (fun e => hn (by rw [e]; exact hP))⟩
theorem S_frozen {W : World} {base g n cap : Nat} {ok : Nat → Prop} {rs : List Row} (h : Kd.S dW 87 W base ok (.slice (some ⟨g, 0, none⟩) n cap) rs) (o : Nat) : W.frozen? ⟨g, o, none⟩ = false := by
 obtain ⟨cells, hc⟩ := S_typed h g (by simp [Value.ownBlock])
 exact blk_frozen hc o

set_option maxHeartbeats 4000000 in
set_option maxRecDepth 100000 in
theorem markRowS_calls (P : Nat → Prop) (v : Value) (rs : List Row) (k0 : Int) (h0 : 0 ≤ k0) (hk0 : k0 + totT rs < 9223372036854775807) (w0 w : World) (hB : Below w0.heap.size w0 w) (hS : Kd.S dW 87 w w0.heap.size P v rs) :
  Calls Try.prog 24 #[v, .int .i64 k0] w fun e w' => e = .returned (.int .i64 (k0 + totT rs)) ∧ Kd.S dW 87 w' w0.heap.size P v (markT rs k0) ∧ Below w0.heap.size w0 w' ∧ Kept w w' P := by
 obtain ⟨A, cap, rfl, hcap, hC⟩ := S_reads hS
 have hbig : rs.length ≤ 9223372036854775807 := hC.2.1
 have hu := Try.underlying87
 by_cases hgs : rs = []
 ·
  subst hgs
  have HS := Aside0.mk hS
  have HB := Aside0.mk hB
  clear hS hB hC hcap hbig hk0 h0
  go_enter Try.func24, Try.ntmps24
  go_wp2
  go_loopg [1, 5] 1 (fun gg v1 v5 wr => v1 = .int .i64 k0 ∧ v5 = .int .i64 0 ∧ wr = w)
  case atStart => exact ⟨rfl, rfl, rfl⟩
  case round =>
   obtain ⟨rfl, rfl, rfl⟩ := hrel
   go_wp2
   go_ret
   exact ⟨by simp [totT], HS.out, HB.out, Kept.refl _ _⟩
 have hpos : 0 < rs.length := List.length_pos_iff.2 hgs
 obtain ⟨g, cap', he, hgb, _⟩ := S_form hS hpos
 obtain ⟨rfl, rfl⟩ : A = some ⟨g, 0, none⟩ ∧ cap = cap' := by injection he with h1 h2 h3; exact ⟨h1, h3⟩
 clear he hC hgs
 have HS := Aside0.mk hS
 have HB := Aside0.mk hB
 have HT := Aside0.mk hk0
 have HGB := Aside0.mk hgb
 clear hS hB hk0 hgb
 generalize hL : rs.length = L at *
 have HL := Aside0.mk hL
 clear hL
 go_enter Try.func24, Try.ntmps24
 go_wp2
 go_loopg [1, 5] L (fun gg v1 v5 wr => ∃ i : Nat, i ≤ L ∧ L - i ≤ gg ∧ v1 = .int .i64 (k0 + (totT (rs.take i) : Int)) ∧ v5 = .int .i64 (i : Int) ∧ Aside0 (Kd.S dW 87 wr w0.heap.size P (.slice (some ⟨g, 0, none⟩) L cap) (markT (rs.take i) k0 ++ rs.drop i)) ∧ Aside0 (Below w0.heap.size w0 wr) ∧ Aside0 (Kept w wr P))
 case atStart => exact ⟨0, Nat.zero_le _, by omega, by simp [totT], rfl, ⟨by simpa [markT] using HS.out⟩, HB, ⟨Kept.refl _ _⟩⟩
 case round =>
  clear HS HB
  obtain ⟨i, hi, hgg, rfl, rfl, HS, HB, HK⟩ := hrel
  by_cases hlt : i < L
  ·
   have hltz : (i : Int) < (L : Int) := by omega
   have hig : i < rs.length := by rw [HL.out]; exact hlt
   obtain ⟨oki, vi, hx0, hx1, hy1, hR, hoki, hok, hback⟩ := elem_lent HS.out i hlt
   have hf0 := S_frozen HS.out (i * 2)
   rw [getD_markT rs k0 i hig] at hx0 hR
   have hle := len_le_totT hig
   have hsucc := totT_take_succ hig
   have hset := set_markT rs k0 i hig
   have HM := fun u => markS_calls oki vi (rs.getD i zW).f1 (k0 + (totT (rs.take i) : Int) + 1) (by omega) (by have := HT.out; omega) w0 (wr.setCell ⟨g, i * 2, none⟩ u) (below_set HB.out HGB.out) (hR u)
   obtain ⟨Ai, ci, rfl⟩ := R_slice (hR (.int .i64 0))
   have HBK := Aside0.mk hback
   have HOK := Aside0.mk hoki
   have HPG := Aside0.mk hok
   have HSU := Aside0.mk hsucc
   have HST := Aside0.mk hset
   have hb1 : k0 + (totT (rs.take i) : Int) + 1 < 9223372036854775807 := by have := HT.out; omega
   have hb2 : k0 + (totT (rs.take i) : Int) + 1 + ((rs.getD i zW).f1.length : Int) < 9223372036854775807 := by have := HT.out; omega
   clear hback hoki hok hsucc hset hle hR
   generalize (rs.getD i zW).f1 = x at *
   generalize (rs.getD i zW).f0 = s at *
   generalize hti : k0 + (totT (rs.take i) : Int) = ki at *
   have HTI := Aside0.mk hti
   have hki : 0 ≤ ki := by omega
   have hw1 : wrap64 (ki + 1) = ki + 1 := wrap_id (by omega) (by omega)
   clear hti
   go_wp2_with (go_at_call 23; refine (HM _).mono ?_; rintro e w1 ⟨rfl, hr1, hb1', hk1⟩; have HR1 := Aside0.mk hr1; have HB1 := Aside0.mk hb1'; have HK1 := Aside0.mk hk1; clear hr1 hb1' hk1)
   go_roundg (L - (i + 1))
   case measure => omega
   case rel =>
    refine ⟨i + 1, by omega, by omega, ?_, by go_num, ⟨?_⟩, HB1, ⟨(HK.out.then_ (kept_set (o := i * 2) HPG.out (.int .i64 ki)) (fun k hk => .inl hk)).then_ HK1.out (fun k hk => .inl (HOK.out k hk).1)⟩⟩
    ·
     rw [HSU.out, ← HTI.out]
     go_num
    ·
     have := HBK.out ki w1 _ HK1.out HR1.out
     rw [HST.out] at this
     exact this
  ·
   have hltz : ¬ (i : Int) < (L : Int) := by omega
   obtain rfl : i = L := by omega
   go_wp2
   go_ret
   have ht : rs.take i = rs := by rw [← HL.out, List.take_length]
   have hd : rs.drop i = [] := by rw [← HL.out, List.drop_length]
   have hs := HS.out
   rw [ht, hd, List.append_nil] at hs
   exact ⟨by rw [ht]; rfl, hs, HB.out, HK.out⟩

/-- A table that was made: its blocks are numbered from lo on, below hi; the sizes' block is none of the rows'. -/
structure ItmT (W : World) (b : Nat) (v1 : Value) (sz : List Int) (v2 : Value) (rs : List Row) (lo hi : Nat) : Prop where
 s1 : Kd.R (Kd.int .i64) 2 W b (fun k => (lo ≤ k ∧ k < hi) ∧ some k = v1.ownBlock) v1 sz
 s2 : Kd.S dW 87 W b (fun k => (lo ≤ k ∧ k < hi) ∧ some k ≠ v1.ownBlock) v2 rs
 fit : hi ≤ W.heap.size
section
variable {W W' : World} {b lo hi : Nat} {v1 v2 : Value} {sz : List Int} {rs : List Row} {P : Nat → Prop}
theorem ItmT.new {W0 : World} (h : Kd.R (Kd.int .i64) 2 W W0.heap.size (fun _ => True) v1 sz) (h2 : Kd.S dW 87 W W0.heap.size (fun k => some k ≠ v1.ownBlock) v2 rs) (hb : b ≤ W0.heap.size) : ItmT W b v1 sz v2 rs W0.heap.size W.heap.size :=
 ⟨R_mono (R_lower (R_bound (R_tight rfl h)) hb) (fun k hk => ⟨⟨hk.2.1, hk.2.2.1⟩, hk.1⟩), S_mono (S_lower (S_bound h2) hb) (fun k hk => ⟨⟨hk.2.1, hk.2.2.1⟩, hk.1⟩), Nat.le_refl _⟩
theorem ItmT.new' {W0 : World} {lo : Nat} (h : Kd.R (Kd.int .i64) 2 W W0.heap.size (fun _ => True) v1 sz) (h2 : Kd.S dW 87 W W0.heap.size (fun k => some k ≠ v1.ownBlock) v2 rs) (hlo : lo = W0.heap.size) (hb : b ≤ lo) : ItmT W b v1 sz v2 rs lo W.heap.size := by
 subst hlo; exact ItmT.new h h2 hb
theorem ItmT.kept (h : ItmT W b v1 sz v2 rs lo hi) (hk : Kept W W' P) (ha : ∀ k, P k → ¬ (lo ≤ k ∧ k < hi)) : ItmT W' b v1 sz v2 rs lo hi := ⟨R_kept h.s1 hk (fun k hk hp => ha k hp hk.1), S_kept h.s2 hk (fun k hk hp => ha k hp hk.1), Nat.le_trans h.fit hk.1⟩
theorem ItmT.below (h : ItmT W b v1 sz v2 rs lo hi) (hb : Below W.heap.size W W') : ItmT W' b v1 sz v2 rs lo hi := h.kept (Kept.of_below hb (fun _ => False)) (fun _ hk => hk.elim)
theorem ItmT.alloc (h : ItmT W b v1 sz v2 rs lo hi) (o : Obj) : ItmT (W.alloc o) b v1 sz v2 rs lo hi := h.below (below_alloc (Below.refl _ _) o)
theorem ItmT.C {A A' : Option Addr} {n c n' c' : Nat} (h : ItmT W b (.slice A n c) sz (.slice A' n' c') rs lo hi) : (n = sz.length ∧ n ≤ c ∧ Kd.C (Kd.int .i64) W A sz.length sz) ∧ (n' = rs.length ∧ n' ≤ c' ∧ Kd.C dW W A' rs.length rs) := ⟨R_reads' h.s1, S_reads' h.s2⟩
end

set_option maxHeartbeats 4000000 in
set_option maxRecDepth 100000 in
/-- A table, marked. -/
theorem markTable_calls (lo hi : Nat) (n : Int) (v1 : Value) (sz : List Int) (v2 : Value) (rs : List Row) (k0 : Int) (h0 : 0 ≤ k0) (hk0 : k0 + sz.length + totT rs < 9223372036854775807) (w0 w : World) (hB : Below w0.heap.size w0 w) (hI : ItmT w w0.heap.size v1 sz v2 rs lo hi) :
  Calls Try.prog 25 #[.agg #[.int .i64 n, v1, v2], .int .i64 k0] w fun e w' => e = .returned (.int .i64 (k0 + sz.length + totT rs)) ∧ ItmT w' w0.heap.size v1 (upL sz.length k0) v2 (markT rs (k0 + sz.length)) lo hi ∧ Below w0.heap.size w0 w' ∧ Kept w w' (fun k => lo ≤ k ∧ k < hi) := by
 have hu := Try.underlying27
 have HFIT := Aside0.mk hI.fit
 obtain ⟨A1, c1, rfl⟩ := R_slice hI.s1
 obtain ⟨A2, c2, rfl⟩ := S_slice hI.s2
 have HI := Aside0.mk (hI.alloc (.cells #[.int .i64 n, .slice A1 sz.length c1, .slice A2 rs.length c2] 27))
 have HB := Aside0.mk (hB.alloc hB.size (.cells #[.int .i64 n, .slice A1 sz.length c1, .slice A2 rs.length c2] 27))
 have HBX := Aside0.mk (blk_new w (.cells #[.int .i64 n, .slice A1 sz.length c1, .slice A2 rs.length c2] 27))
 have HM1 := markS_calls _ _ sz k0 h0 (by omega) w0 _ HB.out HI.out.s1
 have HK0 := Aside0.mk hk0
 clear hI hB hk0
 go_enter Try.func25, Try.ntmps25
 go_wp2_with (fail)
 (refine HM1.mono ?_; clear HM1; rintro e w1 ⟨rfl, hr1, hb1, hk1⟩; have HR1 := Aside0.mk hr1; have HB1 := Aside0.mk hb1; have HK1 := Aside0.mk hk1; have HX1 := Aside0.mk ((hk1.2 w.heap.size (by simp) (fun h_ => by have h2_ := HFIT.out; have h3_ := h_.1.2; omega)).trans HBX.out); have HS1 := Aside0.mk (S_kept HI.out.s2 hk1 (fun k h_ h2_ => h_.2 h2_.2)); clear hr1 hb1 hk1)
 have x1 : w1.cell? ⟨w.heap.size, 2, none⟩ = some (.slice A2 rs.length c2) := (blk_cell HX1.out 2).trans rfl
 have HM2 := markRowS_calls _ _ rs (k0 + sz.length) (by omega) HK0.out w0 w1 HB1.out HS1.out
 go_wp2_with (fail)
 (refine HM2.mono ?_; clear HM2 x1; rintro e w2 ⟨rfl, hr2, hb2, hk2⟩; have HR2 := Aside0.mk hr2; have HB2 := Aside0.mk hb2; have HK2 := Aside0.mk hk2; clear hr2 hb2 hk2)
 go_wp2_with (fail)
 go_ret
 have hK := ((((Kept.refl w (fun k => lo ≤ k ∧ k < hi)).alloc (.cells #[.int .i64 n, .slice A1 sz.length c1, .slice A2 rs.length c2] 27)).then_ HK1.out (fun k hk => .inl hk.1)).then_ HK2.out (fun k hk => .inl hk.1))
 exact ⟨rfl, ⟨R_kept HR1.out HK2.out (fun k h_ h2_ => h2_.2 h_.2), HR2.out, Nat.le_trans HFIT.out hK.1⟩, HB2.out, hK⟩

end Go.Proofs.Ytdahdeohmbadhaa.MarkT
