/- What the exact laws' marks do to rows of rows: they write into the rows that were handed over, and into nothing else. What the exact laws' own helpers on families tell: sizes, copies, comparisons, marks that are held. Words for the walks of the exact laws: what was made is kept apart by the numbers of its blocks. -/
import Derived.Test.YtdahdeohmbadhaaGx9
import Derived.Test.YtdahdeohmbadhaaGx8
import Derived.Test.YtdahdeohmbadhaaGx7
import Derived.Test.YtdahdeohmbadhaaGx7
import Derived.Test.YtdahdeohmbadhaaFam
import Derived.Test.YtdahdeohmbadhaaMarkT
import Derived.Test.YtdahdeohmbadhaaEx0
import Derived.Deep.RegionHeld3
import Derived.BigQuiet
import Derived.Outline
namespace Go.Proofs.Ytdahdeohmbadhaa.Mark
open Go.RowKit Go.Lib Go.Proofs Go.Proofs.YtdahdeohmbadhaaW.PrintWords Go.Proofs.YtdahdeohmbadhaaW.PrintWords.Kd Go.Proofs.YtdahdeohmbadhaaW.PrintLast Go.Proofs.YtdahdeohmbadhaaW.PrintMore Go.Proofs.Ytdahdeohmbadhaa.G Go.Proofs.Ytdahdeohmbadhaa.Loops
set_option linter.unusedVariables false
set_option linter.unusedSimpArgs false

/-- How many numbers rows have. -/
def total : List (List Int) → Nat
 | [] => 0
 | g :: gs => g.length + total gs
/-- Rows, their numbers marked from k on. -/
def markG : List (List Int) → Int → List (List Int)
 | [], _ => []
 | g :: gs, k => upL g.length k :: markG gs (k + g.length)
theorem markG_len : ∀ gs k, (markG gs k).length = gs.length
 | [], _ => rfl
 | g :: gs, k => by simp [markG, markG_len gs]
theorem total_append : ∀ a b, total (a ++ b) = total a + total b
 | [], b => by simp [total]
 | g :: a, b => by simp [total, total_append a b]; omega
theorem markG_append : ∀ a b k, markG (a ++ b) k = markG a k ++ markG b (k + total a)
 | [], b, k => by simp [markG, total]
 | g :: a, b, k => by
  simp only [List.cons_append, markG, markG_append a b, total]
  rw [show k + (g.length : Int) + (total a : Int) = k + ((g.length + total a : Nat) : Int) by omega]
theorem total_take_le (gs : List (List Int)) (i : Nat) : total (gs.take i) ≤ total gs := by
 have := total_append (gs.take i) (gs.drop i)
 rw [List.take_append_drop] at this
 omega
theorem total_take_succ {gs : List (List Int)} {i : Nat} (h : i < gs.length) : total (gs.take (i + 1)) = total (gs.take i) + (gs.getD i []).length := by
 rw [List.take_succ_eq_append_getElem h, total_append]
 simp [total, List.getD, h]
theorem len_le_total {gs : List (List Int)} {i : Nat} (h : i < gs.length) : total (gs.take i) + (gs.getD i []).length ≤ total gs := by
 rw [← total_take_succ h]; exact total_take_le _ _

/-! ### rows of rows -/
/-- Rows of numbers. -/
abbrev dR : Kd (List Int) := Kd.slice 2 (Kd.int .i64)

theorem row_lent {W : World} {base g n cap : Nat} {ok : Nat → Prop} {gs : List (List Int)} (h : Kd.S dR 22 W base ok (.slice (some ⟨g, 0, none⟩) n cap) gs) (i : Nat) (hi : i < n) :
  ∃ (oki : Nat → Prop) (v : Value), W.cell? ⟨g, i, none⟩ = some v ∧ Kd.R (Kd.int .i64) 2 W base oki v (gs.getD i []) ∧ (∀ k, oki k → ok k ∧ k ≠ g) ∧
   ∀ (W' : World) (l' : List Int), Kept W W' oki → Kd.R (Kd.int .i64) 2 W' base oki v l' → Kd.S dR 22 W' base ok (.slice (some ⟨g, 0, none⟩) n cap) (gs.set i l') := by
 obtain ⟨oki, c, hcl, ⟨v, rfl, hR⟩, hcell, hoki, hH⟩ := S_lend h [] (i : Int) (by omega) (by omega)
 rw [Int.toNat_natCast] at hR hcell
 have h0 := hcell 0 v rfl
 refine ⟨oki, v, by simpa [show dR.sz = 1 from rfl] using h0, hR, hoki, fun W' l' hk hR' => ?_⟩
 have hH' := H_step (w1 := W') hH (fun k _ hn hlt => hk.2 k hlt hn)
 have := H_back hH' (x' := l') (okp := oki) ⟨v, rfl, hR'⟩ (fun _ hk => hk)
 rwa [Int.toNat_natCast] at this

theorem set_markG (gs : List (List Int)) (k0 : Int) (i : Nat) (hi : i < gs.length) :
  (markG (gs.take i) k0 ++ gs.drop i).set i (upL (gs.getD i []).length (k0 + total (gs.take i))) = markG (gs.take (i + 1)) k0 ++ gs.drop (i + 1) := by
 have hl : (markG (gs.take i) k0).length = i := by rw [markG_len, List.length_take]; omega
 rw [List.take_succ_eq_append_getElem hi, markG_append, List.drop_eq_getElem_cons hi, List.set_append_right _ _ (by omega), hl, Nat.sub_self, List.set_cons_zero]
 simp [markG, List.getD, hi]
theorem getD_markG (gs : List (List Int)) (k0 : Int) (i : Nat) (hi : i < gs.length) : (markG (gs.take i) k0 ++ gs.drop i).getD i [] = gs.getD i [] := by
 have hl : (markG (gs.take i) k0).length = i := by rw [markG_len, List.length_take]; omega
 rw [List.getD_eq_getElem?_getD, List.getElem?_append_right (by omega), hl, Nat.sub_self, List.getElem?_drop, Nat.add_zero, ← List.getD_eq_getElem?_getD]

set_option maxHeartbeats 2000000 in
set_option maxRecDepth 100000 in
theorem markSS_calls (P : Nat → Prop) (v : Value) (gs : List (List Int)) (k0 : Int) (h0 : 0 ≤ k0) (hk0 : k0 + total gs < 9223372036854775807) (w0 w : World) (hB : Below w0.heap.size w0 w) (hS : Kd.S dR 22 w w0.heap.size P v gs) :
  Calls Try.prog 119 #[v, .int .i64 k0] w fun e w' => e = .returned (.int .i64 (k0 + total gs)) ∧ Kd.S dR 22 w' w0.heap.size P v (markG gs k0) ∧ Below w0.heap.size w0 w' ∧ Kept w w' P := by
 obtain ⟨A, cap, rfl, hcap, hC⟩ := S_reads hS
 have hbig : gs.length ≤ 9223372036854775807 := hC.2.1
 by_cases hgs : gs = []
 ·
  subst hgs
  have HS := Aside0.mk hS
  have HB := Aside0.mk hB
  clear hS hB hC hcap hbig hk0 h0
  go_enter Try.func119, Try.ntmps119
  go_wp2
  go_loopg [1, 5] 1 (fun gg v1 v5 wr => v1 = .int .i64 k0 ∧ v5 = .int .i64 0 ∧ wr = w)
  case atStart => exact ⟨rfl, rfl, rfl⟩
  case round =>
   obtain ⟨rfl, rfl, rfl⟩ := hrel
   go_wp2
   go_ret
   exact ⟨by simp [total], HS.out, HB.out, Kept.refl _ _⟩
 have hpos : 0 < gs.length := List.length_pos_iff.2 hgs
 obtain ⟨g, cap', he, _⟩ := S_form hS hpos
 obtain ⟨rfl, rfl⟩ : A = some ⟨g, 0, none⟩ ∧ cap = cap' := by injection he with h1 h2 h3; exact ⟨h1, h3⟩
 clear he hC hgs
 have HS := Aside0.mk hS
 have HB := Aside0.mk hB
 have HT := Aside0.mk hk0
 clear hS hB hk0
 generalize hL : gs.length = L at *
 have HL := Aside0.mk hL
 clear hL
 go_enter Try.func119, Try.ntmps119
 go_wp2
 go_loopg [1, 5] L (fun gg v1 v5 wr => ∃ i : Nat, i ≤ L ∧ L - i ≤ gg ∧ v1 = .int .i64 (k0 + (total (gs.take i) : Int)) ∧ v5 = .int .i64 (i : Int) ∧ Aside0 (Kd.S dR 22 wr w0.heap.size P (.slice (some ⟨g, 0, none⟩) L cap) (markG (gs.take i) k0 ++ gs.drop i)) ∧ Aside0 (Below w0.heap.size w0 wr) ∧ Aside0 (Kept w wr P))
 case atStart => exact ⟨0, Nat.zero_le _, by omega, by simp [total], rfl, ⟨by simpa [markG] using HS.out⟩, HB, ⟨Kept.refl _ _⟩⟩
 case round =>
  clear HS HB
  obtain ⟨i, hi, hgg, rfl, rfl, HS, HB, HK⟩ := hrel
  by_cases hlt : i < L
  ·
   have hltz : (i : Int) < (L : Int) := by omega
   have hig : i < gs.length := by rw [HL.out]; exact hlt
   obtain ⟨oki, vi, hcell, hR, hoki, hback⟩ := row_lent HS.out i hlt
   rw [getD_markG gs k0 i hig] at hR
   have hle := len_le_total hig
   have hsucc := total_take_succ hig
   have hset := set_markG gs k0 i hig
   have HM := markS_calls oki vi (gs.getD i []) (k0 + (total (gs.take i) : Int)) (by omega) (by have := HT.out; omega) w0 wr HB.out hR
   obtain ⟨Ai, ci, rfl⟩ := R_slice hR
   have HBK := Aside0.mk hback
   have HOK := Aside0.mk hoki
   have HSU := Aside0.mk hsucc
   have HST := Aside0.mk hset
   clear hback hoki hsucc hset hle hR
   generalize gs.getD i [] = x at *
   generalize hti : k0 + (total (gs.take i) : Int) = ki at *
   have HTI := Aside0.mk hti
   clear hti
   go_wp2_with (go_at_call 23; refine HM.mono ?_; rintro e w1 ⟨rfl, hr1, hb1, hk1⟩; have HR1 := Aside0.mk hr1; have HB1 := Aside0.mk hb1; have HK1 := Aside0.mk hk1; clear hr1 hb1 hk1)
   go_roundg (L - (i + 1))
   case measure => omega
   case rel =>
    refine ⟨i + 1, by omega, by omega, ?_, by go_num, ⟨?_⟩, HB1, ⟨HK.out.then_ HK1.out (fun k hk => .inl (HOK.out k hk).1)⟩⟩
    ·
     rw [HSU.out, ← HTI.out]
     go_num
    ·
     have := HBK.out w1 _ HK1.out HR1.out
     rw [HST.out] at this
     exact this
  ·
   have hltz : ¬ (i : Int) < (L : Int) := by omega
   obtain rfl : i = L := by omega
   go_wp2
   go_ret
   have ht : gs.take i = gs := by rw [← HL.out, List.take_length]
   have hd : gs.drop i = [] := by rw [← HL.out, List.drop_length]
   have hs := HS.out
   rw [ht, hd, List.append_nil] at hs
   exact ⟨by rw [ht]; rfl, hs, HB.out, HK.out⟩

set_option maxHeartbeats 2000000 in
theorem markF_calls (P : Nat → Prop) (n : Int) (v : Value) (gs : List (List Int)) (k0 : Int) (h0 : 0 ≤ k0) (hk0 : k0 + total gs < 9223372036854775807) (w0 w : World) (hB : Below w0.heap.size w0 w) (hS : Kd.S dR 22 w w0.heap.size P v gs) (hP : ∀ k, P k → k < w.heap.size) :
  Calls Try.prog 48 #[.agg #[.int .i64 n, v], .int .i64 k0] w fun e w' => e = .returned (.int .i64 (k0 + total gs)) ∧ Kd.S dR 22 w' w0.heap.size P v (markG gs k0) ∧ Below w0.heap.size w0 w' ∧ Kept w w' P := by
 have hu := Try.underlying58
 have HM := markSS_calls P v gs k0 h0 hk0 w0 (w.alloc (.cells #[.int .i64 n, v] 58)) (hB.alloc hB.size _) (S_alloc hS _)
 obtain ⟨A, cap, rfl⟩ := S_slice hS
 clear hS hB
 go_enter Try.func48, Try.ntmps48
 go_wp2_with (go_at_call 119; refine HM.mono ?_; rintro e w1 ⟨rfl, hr1, hb1, hk1⟩; have HR1 := Aside0.mk hr1; have HB1 := Aside0.mk hb1; have HK1 := Aside0.mk hk1; clear hr1 hb1 hk1)
 go_ret
 exact ⟨rfl, HR1.out, HB1.out, ((Kept.refl w P).alloc _).then_ HK1.out (fun k hk => .inl hk)⟩

end Go.Proofs.Ytdahdeohmbadhaa.Mark

namespace Go.Proofs.Ytdahdeohmbadhaa.ExF
open Go.RowKit Go.Lib Go.Proofs Go.Proofs.YtdahdeohmbadhaaW.PrintWords Go.Proofs.YtdahdeohmbadhaaW.PrintWords.Kd Go.Proofs.YtdahdeohmbadhaaW.PrintLast Go.Proofs.YtdahdeohmbadhaaW.PrintMore Go.Proofs.Ytdahdeohmbadhaa.G Go.Proofs.Ytdahdeohmbadhaa.Loops Go.Proofs.Ytdahdeohmbadhaa.Mark
set_option linter.unusedVariables false
set_option linter.unusedSimpArgs false

theorem rdLL (xs : List (List Int)) (n : Nat) : rd_L1 xs (n : Int) = xs.getD n [] := by simp [rd_L1]
theorem getDL {gs : List (List Int)} {i : Nat} (hi : i < gs.length) : gs.getD i [] = gs[i] := by simp [List.getD, List.getElem?_eq_getElem hi]
theorem total_drop {gs : List (List Int)} {i : Nat} (hi : i < gs.length) : total (gs.drop i) = (gs.getD i []).length + total (gs.drop (i + 1)) := by
 rw [List.drop_eq_getElem_cons hi, getDL hi]; rfl
theorem len_total : ∀ {gs : List (List Int)} {g : List Int}, g ∈ gs → g.length ≤ total gs
 | [], _, h => by cases h
 | a :: gs, g, h => by
  rcases List.mem_cons.1 h with rfl | h
  ·
   simp [total]
  ·
   have := len_total h; simp [total]; omega

/-! ### sizes -/
theorem szSS_loop (gs : List (List Int)) (hl : gs.length ≤ 9223372036854775807) (hg : ∀ g ∈ gs, g.length ≤ 9223372036854775807) : ∀ (d n : Nat) (a : Int), n ≤ gs.length → gs.length - n = d → 0 ≤ a → a ≤ 1048576 →
  Ev (fun k => laws_szInt64SS.l0 k gs a (n : Int)) (if a < total (gs.drop n) then -1 else a - total (gs.drop n)) := by
 intro d
 induction d with
 | zero =>
  intro n a hn hd h0 h1
  obtain rfl : n = gs.length := by omega
  rw [List.drop_length]
  rw [if_neg (by simp [total]; omega)]
  refine Ev.step (f := fun _ => some a) (fun k => by simp only [laws_szInt64SS.l0]; rw [if_neg (by omega)]) ?_
  simpa [total] using Ev.now a
 | succ d ih =>
  intro n a hn hd h0 h1
  have hlt : n < gs.length := by omega
  have hgl : (gs.getD n []).length ≤ 9223372036854775807 := by rw [getDL hlt]; exact hg _ (List.getElem_mem hlt)
  have ht := total_drop hlt
  have hw : wrap64 ((n : Int) + 1) = ((n + 1 : Nat) : Int) := by rw [wrap_id (by omega) (by omega)]; omega
  by_cases h : a < ((gs.getD n []).length : Int)
  ·
   rw [if_pos (by omega)]
   refine Ev.step (f := fun _ => some (-1)) (fun k => ?_) (Ev.now _)
   simp only [laws_szInt64SS.l0]
   rw [if_pos (by omega), if_pos (by omega), rdLL, szS_is _ a h0 h1 hgl, if_pos h]
   rfl
  ·
   have h2 := ih (n + 1) (a - (gs.getD n []).length) (by omega) (by omega) (by omega) (by omega)
   have e : (if a < total (gs.drop n) then (-1 : Int) else a - total (gs.drop n)) = if a - ((gs.getD n []).length : Int) < total (gs.drop (n + 1)) then -1 else a - ((gs.getD n []).length : Int) - total (gs.drop (n + 1)) := by
    rw [ht]
    by_cases h3 : a - ((gs.getD n []).length : Int) < total (gs.drop (n + 1))
    ·
     rw [if_pos h3, if_pos (by omega)]
    ·
     rw [if_neg h3, if_neg (by omega)]; omega
   rw [e]
   refine Ev.step (fun k => ?_) h2
   simp only [laws_szInt64SS.l0]
   rw [if_pos (by omega), if_pos (by omega), rdLL, szS_is _ a h0 h1 hgl, if_neg h]
   simp only [Option.bind_some]
   rw [if_neg (by omega), hw]
/-- How much rows count. -/
def size2 (gs : List (List Int)) : Nat := gs.length + total gs
theorem szSS_is (gs : List (List Int)) (hl : gs.length ≤ 9223372036854775807) (hg : ∀ g ∈ gs, g.length ≤ 9223372036854775807) (a : Int) (h0 : 0 ≤ a) (h1 : a ≤ 1048576) :
  Ev (fun k => laws_szInt64SS.f k gs a) (if a < size2 gs then -1 else a - size2 gs) := by
 have e : wrap64 (a - (gs.length : Int)) = a - gs.length := wrap_id (by omega) (by omega)
 unfold laws_szInt64SS.f
 rw [e]
 by_cases h : a - (gs.length : Int) < 0
 ·
  rw [if_pos (by unfold size2; omega)]
  simp only [if_pos h]
  exact Ev.now _
 ·
  simp only [if_neg h]
  have := szSS_loop gs hl hg gs.length 0 (a - gs.length) (by omega) (by omega) (by omega) (by omega)
  rw [List.drop_zero] at this
  have e2 : (if a < size2 gs then (-1 : Int) else a - size2 gs) = if a - (gs.length : Int) < total gs then -1 else a - (gs.length : Int) - total gs := by
   unfold size2
   by_cases h3 : a - (gs.length : Int) < total gs
   ·
    rw [if_pos h3, if_pos (by omega)]
   ·
    rw [if_neg h3, if_neg (by omega)]; omega
  rw [e2]
  exact this

/-! ### copies -/
theorem toSS_loop (gs : List (List Int)) (hl : gs.length ≤ 1048576) (hg : ∀ g ∈ gs, g.length ≤ 1048576) : ∀ (d n : Nat) (y : List (List Int)), y.length = gs.length → n ≤ gs.length → gs.length - n = d → y.take n = gs.take n →
  Ev (fun k => laws_toInt64SS.l0 k gs y (n : Int)) gs := by
 intro d
 induction d with
 | zero =>
  intro n y hy hn hd ht
  obtain rfl : n = gs.length := by omega
  rw [List.take_length, ← hy, List.take_length] at ht
  refine Ev.step (f := fun _ => some y) (fun k => by simp only [laws_toInt64SS.l0]; rw [if_neg (by omega)]) ?_
  rw [ht]; exact Ev.now _
 | succ d ih =>
  intro n y hy hn hd ht
  have hlt : n < gs.length := by omega
  have hgl : (gs.getD n []).length ≤ 1048576 := by rw [getDL hlt]; exact hg _ (List.getElem_mem hlt)
  have hw : wrap64 ((n : Int) + 1) = ((n + 1 : Nat) : Int) := by rw [wrap_id (by omega) (by omega)]; omega
  have h2 := ih (n + 1) (y.set n (gs.getD n [])) (by rw [List.length_set]; exact hy) (by omega) (by omega) (by
   rw [List.take_succ_eq_append_getElem (by rw [List.length_set]; omega), List.take_succ_eq_append_getElem hlt, List.take_set_of_le (by omega), ht]
   congr 1
   simp [List.getD, List.getElem?_eq_getElem hlt])
  refine Ev.step (f := fun k => (laws_toInt64S.f k (gs.getD n [])).bind fun t => if (n : Int) < (y.length : Int) then laws_toInt64SS.l0 k gs (y.set (n : Int).toNat t) (wrap64 ((n : Int) + 1)) else none) (fun k => by
   simp only [laws_toInt64SS.l0]
   rw [if_pos (by omega), if_pos (by omega), rdLL]) ?_
  refine Ev.bind (a := gs.getD n []) ⟨(gs.getD n []).length + 1, fun k hk => toS_is _ k hgl (by omega)⟩ ?_
  rw [hw, Int.toNat_natCast]
  exact h2.congr (fun k => by rw [if_pos (by omega)])
theorem toSS_is (gs : List (List Int)) (hl : gs.length ≤ 1048576) (hg : ∀ g ∈ gs, g.length ≤ 1048576) : Ev (fun k => laws_toInt64SS.f k gs) gs := by
 unfold laws_toInt64SS.f
 refine (toSS_loop gs hl hg gs.length 0 (List.replicate ((gs.length : Int) : Int).toNat []) (by simp) (by omega) (by omega) (by simp)).congr (fun k => ?_)
 rw [if_pos (by omega), if_pos (by omega)]
 rfl

/-! ### comparisons -/
theorem eqSS_loop (a b : List (List Int)) (hl : a.length = b.length) (hb : a.length ≤ 9223372036854775807) (hg : ∀ g ∈ a, g.length ≤ 9223372036854775807) :
  ∀ (d i : Nat), i ≤ a.length → a.length - i = d → Ev (fun k => laws_eqInt64SS.l0 k a b (i : Int)) (decide (a.drop i = b.drop i)) := by
 intro d
 induction d with
 | zero =>
  intro i hi hd
  obtain rfl : i = a.length := by omega
  refine Ev.step (f := fun _ => some true) (fun k => by simp only [laws_eqInt64SS.l0]; rw [if_neg (by omega)]) ?_
  rw [List.drop_length, hl, List.drop_length]
  exact Ev.now true
 | succ d ih =>
  intro i hi hd
  have hlt : i < a.length := by omega
  have hE : Ev (fun k => laws_eqInt64S.f k (a.getD i []) (b.getD i [])) (decide (a.getD i [] = b.getD i [])) := ⟨(a.getD i []).length + 1, fun k hk => eqS_is _ _ k (by rw [getDL hlt]; exact hg _ (List.getElem_mem _)) (by omega)⟩
  refine Ev.step (f := fun k => (laws_eqInt64S.f k (a.getD i []) (b.getD i [])).bind fun t => if t = true then laws_eqInt64SS.l0 k a b (wrap64 ((i : Int) + 1)) else some false) (fun k => by
   simp only [laws_eqInt64SS.l0]
   rw [if_pos (by omega), if_pos (by omega), if_pos (by omega), rdLL, rdLL]) (Ev.bind hE ?_)
  have hs := drop_eq_step [] a b i hlt (by omega)
  have h1 := ih (i + 1) (by omega) (by omega)
  rw [show ((i + 1 : Nat) : Int) = wrap64 ((i : Int) + 1) from by rw [wrap_id (by omega) (by omega)]; omega] at h1
  by_cases h : a.getD i [] = b.getD i []
  ·
   rw [decide_eq_true h, show decide (a.drop i = b.drop i) = decide (a.drop (i + 1) = b.drop (i + 1)) from decide_eq_decide.2 (hs.trans ⟨fun h' => h'.2, fun h' => ⟨h, h'⟩⟩)]
   simpa using h1
  ·
   rw [decide_eq_false h, show decide (a.drop i = b.drop i) = false from decide_eq_false (fun h' => h (hs.1 h').1)]
   simpa using Ev.now false
theorem eqSS_is (a b : List (List Int)) (hb : a.length ≤ 9223372036854775807) (hg : ∀ g ∈ a, g.length ≤ 9223372036854775807) : Ev (fun k => laws_eqInt64SS.f k a b) (decide (a = b)) := by
 unfold laws_eqInt64SS.f
 by_cases hl : a.length = b.length
 ·
  have := eqSS_loop a b hl hb hg a.length 0 (by omega) (by omega)
  rw [List.drop_zero, List.drop_zero] at this
  exact this.congr (fun k => by rw [if_pos (by omega)]; rfl)
 ·
  rw [show decide (a = b) = false from decide_eq_false (fun h => hl (by rw [h]))]
  refine Ev.congr (f := fun _ => some false) (fun k => by rw [if_neg (by omega)]) (Ev.now _)

/-! ### marks, held -/
theorem getD_mark (gs : List (List Int)) (k0 : Int) (i : Nat) (hi : i < gs.length) : (markG gs k0).getD i [] = upL (gs.getD i []).length (k0 + total (gs.take i)) := by
 have h := markG_append (gs.take i) (gs.drop i) k0
 rw [List.take_append_drop] at h
 have hl : (markG (gs.take i) k0).length = i := by rw [markG_len, List.length_take]; omega
 rw [h, List.drop_eq_getElem_cons hi]
 simp only [markG]
 rw [List.getD_eq_getElem?_getD, List.getElem?_append_right (by omega), hl, Nat.sub_self, getDL hi]
 rfl

/-! ### the contracts -/
theorem lens_C {w : World} {A : Option Addr} {n : Nat} {gs : List (List Int)} (h : dR.C w A n gs) : gs.length ≤ 9223372036854775807 ∧ ∀ g ∈ gs, g.length ≤ 9223372036854775807 := by
 refine ⟨by rw [h.1]; exact h.2.1, fun g hg => ?_⟩
 obtain ⟨i, hi, rfl⟩ := List.mem_iff_getElem.1 hg
 have hn := h.1
 obtain ⟨ad, e, hc⟩ := h.2.2 (by omega)
 obtain ⟨c, hl, ⟨A', c', _, _, hC⟩, _⟩ := hc i gs[i] (List.getElem?_eq_getElem hi)
 exact hC.2.1
/-- Rows that are not too many. -/
def Few (gs : List (List Int)) : Prop := gs.length ≤ 1048576 ∧ ∀ g ∈ gs, g.length ≤ 1048576
theorem few_of {gs : List (List Int)} {a : Int} (h1 : a ≤ 1048576) (h : ¬ a < size2 gs) : Few gs := by
 unfold size2 at h
 exact ⟨by omega, fun g hg => by have := len_total hg; omega⟩
theorem szF_calls (n : Int) (A : Option Addr) (c : Nat) (gs : List (List Int)) (a : Int) (h0 : 0 ≤ a) (h1 : a ≤ 1048576) (w : World) (hC : dR.C w A gs.length gs) (hc : gs.length ≤ c) :
  Calls Try.prog 43 #[.agg #[.int .i64 n, .slice A gs.length c], .int .i64 a] w fun e w' => e = .returned (.int .i64 (if a < size2 gs then -1 else a - size2 gs)) ∧ Below w.heap.size w w' := by
 have hE : Ev (fun k => laws_szFamily.f k n gs a) (if a < size2 gs then -1 else a - size2 gs) := by
  unfold laws_szFamily.f
  refine Ev.bind (szSS_is gs (lens_C hC).1 (lens_C hC).2 a h0 h1) ?_
  by_cases h : a < size2 gs
  ·
   rw [if_pos h]; exact Ev.now _
  ·
   rw [if_neg h, if_neg (by omega)]; exact Ev.now _
 obtain ⟨k, hk⟩ := hE.rounds
 exact laws_szFamily.calls k n A c gs a _ w hC hc hk
theorem toF_calls (n : Int) (A : Option Addr) (c : Nat) (gs : List (List Int)) (hf : Few gs) (w : World) (hC : dR.C w A gs.length gs) (hc : gs.length ≤ c) :
  Calls Try.prog 45 #[.agg #[.int .i64 n, .slice A gs.length c]] w fun e w' => ∃ v, e = .returned (.agg #[.int .i64 n, v]) ∧ Kd.S dR 22 w' w.heap.size (fun _ => True) v gs ∧ Below w.heap.size w w' := by
 have hE : Ev (fun k => laws_toFamily.f k n gs) (n, gs) := by
  unfold laws_toFamily.f
  exact Ev.bind (toSS_is gs hf.1 hf.2) (Ev.now _)
 obtain ⟨k, hk⟩ := hE.rounds
 exact laws_toFamily.calls k n A c gs _ _ w hC hc hk
theorem eqF_calls (n m : Int) (A A' : Option Addr) (c c' : Nat) (gs hs : List (List Int)) (w : World) (hC : dR.C w A gs.length gs) (hc : gs.length ≤ c) (hC' : dR.C w A' hs.length hs) (hc' : hs.length ≤ c') :
  Calls Try.prog 47 #[.agg #[.int .i64 n, .slice A gs.length c], .agg #[.int .i64 m, .slice A' hs.length c']] w fun e w' => e = .returned (.bool (decide (n = m ∧ gs = hs))) ∧ Below w.heap.size w w' := by
 have hE : Ev (fun k => laws_eqFamily.f k n gs m hs) (decide (n = m ∧ gs = hs)) := by
  unfold laws_eqFamily.f
  by_cases h : n = m
  ·
   simp only [if_pos h]
   refine Ev.bind (eqSS_is gs hs (lens_C hC).1 (lens_C hC).2) ?_
   by_cases h2 : gs = hs
   ·
    simp only [decide_eq_true h2, decide_eq_true (show n = m ∧ gs = hs from ⟨h, h2⟩), if_true]; exact Ev.now _
   ·
    simp only [decide_eq_false h2, decide_eq_false (show ¬ (n = m ∧ gs = hs) from fun h3 => h2 h3.2), Bool.false_eq_true, if_false]; exact Ev.now _
  ·
   simp only [if_neg h, decide_eq_false (show ¬ (n = m ∧ gs = hs) from fun h3 => h h3.1)]
   exact Ev.now _
 obtain ⟨k, hk⟩ := hE.rounds
 exact laws_eqFamily.calls k n A c gs m A' c' hs _ w hC hc hC' hc' hk

/-! ### rows of rows by themselves -/
theorem szG_calls (A : Option Addr) (c : Nat) (gs : List (List Int)) (a : Int) (h0 : 0 ≤ a) (h1 : a ≤ 1048576) (w : World) (hC : dR.C w A gs.length gs) (hc : gs.length ≤ c) :
  Calls Try.prog 109 #[.slice A gs.length c, .int .i64 a] w fun e w' => e = .returned (.int .i64 (if a < size2 gs then -1 else a - size2 gs)) ∧ Below w.heap.size w w' := by
 obtain ⟨k, hk⟩ := (szSS_is gs (lens_C hC).1 (lens_C hC).2 a h0 h1).rounds
 exact (laws_szInt64SS.calls k A c gs a _ w hC hc hk).mono fun e w' ⟨he, hd⟩ => ⟨he, hd.below⟩
theorem toG_calls (A : Option Addr) (c : Nat) (gs : List (List Int)) (hf : Few gs) (w : World) (hC : dR.C w A gs.length gs) (hc : gs.length ≤ c) :
  Calls Try.prog 114 #[.slice A gs.length c] w fun e w' => ∃ v, e = .returned v ∧ Kd.S dR 22 w' w.heap.size (fun _ => True) v gs ∧ Below w.heap.size w w' := by
 obtain ⟨k, hk⟩ := (toSS_is gs hf.1 hf.2).rounds
 exact laws_toInt64SS.calls k A c gs _ w hC hc hk
theorem eqG_calls (A A' : Option Addr) (c c' : Nat) (gs hs : List (List Int)) (w : World) (hC : dR.C w A gs.length gs) (hc : gs.length ≤ c) (hC' : dR.C w A' hs.length hs) (hc' : hs.length ≤ c') :
  Calls Try.prog 118 #[.slice A gs.length c, .slice A' hs.length c'] w fun e w' => e = .returned (.bool (decide (gs = hs))) ∧ Below w.heap.size w w' := by
 obtain ⟨k, hk⟩ := (eqSS_is gs hs (lens_C hC).1 (lens_C hC).2).rounds
 exact (laws_eqInt64SS.calls k A c gs A' c' hs _ w hC hc hC' hc' hk).mono fun e w' ⟨he, hd⟩ => ⟨he, hd.below⟩

end Go.Proofs.Ytdahdeohmbadhaa.ExF

namespace Go.Proofs.Ytdahdeohmbadhaa.ExW
open Go.RowKit Go.Lib Go.Proofs Go.Proofs.YtdahdeohmbadhaaW.PrintWords Go.Proofs.YtdahdeohmbadhaaW.PrintWords.Kd Go.Proofs.YtdahdeohmbadhaaW.PrintLast Go.Proofs.YtdahdeohmbadhaaW.PrintMore Go.Proofs.Ytdahdeohmbadhaa.G Go.Proofs.Ytdahdeohmbadhaa.Loops Go.Proofs.Ytdahdeohmbadhaa.Mark Go.Proofs.Ytdahdeohmbadhaa.ExF
set_option linter.unusedVariables false
set_option linter.unusedSimpArgs false

/-- Rows of rows that were made: their blocks are numbered from lo on, below hi. -/
structure Itm (W : World) (b : Nat) (v : Value) (gs : List (List Int)) (lo hi : Nat) : Prop where
 s : Kd.S dR 22 W b (fun k => lo ≤ k ∧ k < hi) v gs
 fit : hi ≤ W.heap.size
section
variable {W W' : World} {b lo hi : Nat} {v : Value} {gs : List (List Int)} {P : Nat → Prop}
theorem Itm.new {W0 : World} (h : Kd.S dR 22 W W0.heap.size (fun _ => True) v gs) (hb : b ≤ W0.heap.size) : Itm W b v gs W0.heap.size W.heap.size :=
 ⟨S_mono (S_lower (S_bound h) hb) (fun k hk => ⟨hk.2.1, hk.2.2.1⟩), Nat.le_refl _⟩
theorem Itm.new' {W0 : World} {lo : Nat} (h : Kd.S dR 22 W W0.heap.size (fun _ => True) v gs) (hlo : lo = W0.heap.size) (hb : b ≤ lo) : Itm W b v gs lo W.heap.size := by
 subst hlo
 exact Itm.new h hb
theorem Itm.kept (h : Itm W b v gs lo hi) (hk : Kept W W' P) (ha : ∀ k, P k → ¬ (lo ≤ k ∧ k < hi)) : Itm W' b v gs lo hi := ⟨S_kept h.s hk (fun k hk hp => ha k hp hk), Nat.le_trans h.fit hk.1⟩
theorem Itm.below (h : Itm W b v gs lo hi) (hb : Below W.heap.size W W') : Itm W' b v gs lo hi := h.kept (Kept.of_below hb (fun _ => False)) (fun _ hk => hk.elim)
theorem Itm.alloc (h : Itm W b v gs lo hi) (o : Obj) : Itm (W.alloc o) b v gs lo hi := h.below (below_alloc (Below.refl _ _) o)
theorem Itm.reads (h : Itm W b v gs lo hi) : ∃ A c, v = .slice A gs.length c ∧ gs.length ≤ c ∧ dR.C W A gs.length gs := S_reads h.s
theorem Itm.C {A : Option Addr} {n c : Nat} (h : Itm W b (.slice A n c) gs lo hi) : n = gs.length ∧ n ≤ c ∧ dR.C W A gs.length gs := S_reads' h.s
end
theorem keep4 {w W : World} {a1 a2 a3 a4 : Addr} {v1 v2 v3 v4 : Value} (h1 : w.cell? a1 = some v1) (h2 : w.cell? a2 = some v2) (h3 : w.cell? a3 = some v3) (h4 : w.cell? a4 = some v4) (hb : Below w.heap.size w W) :
  W.cell? a1 = some v1 ∧ W.cell? a2 = some v2 ∧ W.cell? a3 = some v3 ∧ W.cell? a4 = some v4 ∧ Below w.heap.size w W := ⟨pw_cell_below hb h1, pw_cell_below hb h2, pw_cell_below hb h3, pw_cell_below hb h4, hb⟩
theorem C_alloc' {w : World} {A : Option Addr} {n : Nat} {gs : List (List Int)} {o : Obj} (h : dR.C w A n gs) : dR.C (w.alloc o) A n gs := C_below h (below_alloc (Below.refl _ _) o)
/-- A family that a statement has made, wherever its variable was made in it. -/
def BoxMade (W0 : World) (b : Nat) (n : Int) (gs : List (List Int)) (T : TypeId) (g : Nat) (wx : World) (A : Option Addr) (c lo hi : Nat) : Prop :=
 wx.heap[g]? = some (.cells #[.int .i64 n, .slice A gs.length c] T (0, 0)) ∧ Itm wx b (.slice A gs.length c) gs lo hi ∧ W0.heap.size ≤ lo ∧ lo ≤ hi ∧ hi ≤ wx.heap.size ∧ W0.heap.size ≤ g ∧ (g < lo ∨ hi ≤ g) ∧ g < wx.heap.size ∧ Below W0.heap.size W0 wx
theorem kept_new {u W : World} {v0 v1 : Value} {T : TypeId} (hb : Below (u.alloc (.cells #[v0, v1] T)).heap.size (u.alloc (.cells #[v0, v1] T)) W) : W.heap[u.heap.size]? = some (.cells #[v0, v1] T (0, 0)) := blk_below (blk_new u _) hb
theorem kept_new' {u W : World} {v0 v1 : Value} {T : TypeId} (hb : Below (u.alloc (.cells #[v0, v1] T)).drew.heap.size (u.alloc (.cells #[v0, v1] T)).drew W) : W.heap[u.heap.size]? = some (.cells #[v0, v1] T (0, 0)) := blk_below (blk_drew (blk_new u _)) hb
theorem blk_two {W : World} {g : Nat} {v0 v1 : Value} {T : TypeId} (h : W.heap[g]? = some (.cells #[v0, v1] T (0, 0))) :
  W.cell? ⟨g, 0, none⟩ = some v0 ∧ W.cell? ⟨g, 1, none⟩ = some v1 ∧ W.frozen? ⟨g, 0, none⟩ = false ∧ W.frozen? ⟨g, 1, none⟩ = false :=
 ⟨(blk_cell h 0).trans rfl, (blk_cell h 1).trans rfl, blk_frozen h 0, blk_frozen h 1⟩
theorem BoxMade.last {W0 w5 : World} {b : Nat} {n : Int} {gs : List (List Int)} {T : TypeId} {A : Option Addr} {c lo : Nat} (h : Below W0.heap.size W0 w5) (it : Itm w5 b (.slice A gs.length c) gs lo w5.heap.size) (h1 : W0.heap.size ≤ lo) (h2 : lo ≤ w5.heap.size) :
  BoxMade W0 b n gs T w5.heap.size (w5.alloc (.cells #[.int .i64 n, .slice A gs.length c] T)) A c lo w5.heap.size :=
 ⟨blk_new w5 _, it.alloc _, h1, h2, by simp, h.size, Or.inr (Nat.le_refl _), by simp, h.alloc h.size _⟩
theorem BoxMade.early {W0 w5 : World} {b g : Nat} {n : Int} {gs : List (List Int)} {T : TypeId} {A : Option Addr} {c lo : Nat} {z0 z1 : Value} (hz : w5.heap[g]? = some (.cells #[z0, z1] T (0, 0))) (h : Below W0.heap.size W0 w5) (it : Itm w5 b (.slice A gs.length c) gs lo w5.heap.size) (h1 : W0.heap.size ≤ lo) (h2 : lo ≤ w5.heap.size) (hg0 : W0.heap.size ≤ g) (hg : g < lo) :
  BoxMade W0 b n gs T g ((w5.setCell ⟨g, 0, none⟩ (.int .i64 n)).setCell ⟨g, 1, none⟩ (.slice A gs.length c)) A c lo w5.heap.size := by
 have hk : Kept w5 ((w5.setCell ⟨g, 0, none⟩ (.int .i64 n)).setCell ⟨g, 1, none⟩ (.slice A gs.length c)) (fun k => k = g) := by
  refine ⟨by simp, ?_⟩
  intro k hk hk2
  rw [Below.heap_setCell _ _ _ _ hk2, Below.heap_setCell _ _ _ _ hk2]
 refine ⟨blk_put (blk_put hz 0 _ rfl) 1 _ rfl, it.kept hk (fun k h_ h2_ => by omega), h1, h2, by simp, hg0, Or.inl hg, by simpa using blk_lt hz, (h.setCell hg0 _).setCell hg0 _⟩
/-- Rows of rows of a bounded size. -/
theorem total_le {m : Nat} : ∀ {gs : List (List Int)}, (∀ g ∈ gs, g.length ≤ m) → total gs ≤ m * gs.length
 | [], _ => by simp [total]
 | g :: gs, h => by
  have h1 := h g List.mem_cons_self
  have h2 := total_le (gs := gs) (fun x hx => h x (List.mem_cons_of_mem _ hx))
  simp only [total, List.length_cons, Nat.mul_add, Nat.mul_one]
  omega
end Go.Proofs.Ytdahdeohmbadhaa.ExW
