/- slices.Max of numbers. slices.Repeat of one number, a few times. -/
import Derived.Test.YtdahdeohmbadhaaTLists
import Derived.Laws.CopyOwn
import Derived.Deep.RegionLaw
namespace Go.Proofs.Ytdahdeohmbadhaa.TMax
open Go.RowKit Go.Lib Go.Proofs Go.Proofs.YtdahdeohmbadhaaW.PrintWords Go.Proofs.YtdahdeohmbadhaaW.PrintWords.Kd Go.Proofs.YtdahdeohmbadhaaW.PrintLast Go.Proofs.YtdahdeohmbadhaaW.PrintMore Go.Proofs.Ytdahdeohmbadhaa.G Go.Proofs.Ytdahdeohmbadhaa.Fam Go.Proofs.Ytdahdeohmbadhaa.Loops
attribute [local go_sem] max2_int max_two
set_option linter.unusedVariables false
set_option linter.unusedSimpArgs false

def top (a b : Int) : Int := if a < b then b else a
def MaxF (l : List Int) : Option Int := match l with | [] => none | x :: xs => if xs.length ≤ 1000 then some (xs.foldl top x) else none
set_option maxHeartbeats 4000000 in
set_option maxRecDepth 100000 in
theorem max_calls (A0 : Option Addr) (c0 : Nat) (l0 : List Int) (r : Int) (w : World) (hr0 : Kd.C (Kd.int .i64) w A0 l0.length l0) (hc0 : l0.length ≤ c0) (h : MaxF l0 = some r) :
  Calls Try.prog 116 #[.slice A0 l0.length c0] w fun e w' => e = .returned (.int .i64 r) ∧ ∃ nd, w' = w.drewN nd := by
 cases l0 with
 | nil => cases h
 | cons x xs =>
  unfold MaxF at h
  simp only at h
  split at h
  case isFalse => cases h
  rename_i hl
  injection h with h
  subst h
  obtain ⟨ad, rfl, hx⟩ := Kd.at_int hr0 0 (Int.le_refl _) (by rw [List.length_cons]; omega)
  rw [show ((0 : Int)).toNat = 0 from rfl, Addr.add_zero'] at hx
  have hx0 : w.cell? ad = some (.int .i64 x) := hx
  have HC := Aside0.mk hr0
  have HL := Aside0.mk hl
  have hln : (x :: xs).length = xs.length + 1 := List.length_cons
  rw [hln]
  have c1 : decide (((xs.length + 1 : Nat) : Int) < 1) = false := decide_eq_false (by omega)
  have c2 : decide (0 < ((xs.length + 1 : Nat) : Int)) = true := decide_eq_true (by omega)
  clear hr0 hc0 hl hx
  go_enter Try.func116, Try.ntmps116
  go_wp2
  go_loopg [3, 4] (xs.length + 1) (fun gg v3 v4 wr => ∃ k : Nat, v4 = .int .i64 ((k + 1 : Nat) : Int) ∧ v3 = .int .i64 ((xs.take k).foldl top x) ∧ k ≤ xs.length ∧ xs.length + 1 - k ≤ gg ∧ Aside0 (∃ nd, wr = w.drewN nd))
  case atStart => exact ⟨0, rfl, rfl, by omega, by omega, ⟨0, by first | rfl | (simp; done)⟩⟩
  case round =>
   obtain ⟨k, rfl, rfl, hk, hg, HB⟩ := hrel
   by_cases hkl : k < xs.length
   ·
    have c3 : decide (((k + 1 : Nat) : Int) < (xs.length : Int) + 1) = true := decide_eq_true (by omega)
    have hC2 := Kd.C_below HC.out (show Below w.heap.size w wr from by obtain ⟨q, e⟩ := HB.out; rw [e]; exact pw_below_drewN (Below.refl _ _) q)
    obtain ⟨ad', he, hy⟩ := Kd.at_int hC2 ((k + 1 : Nat) : Int) (by omega) (by rw [hln]; omega)
    injection he with he
    subst he
    rw [show rd (x :: xs) ((k + 1 : Nat) : Int) = xs.getD k 0 from rfl] at hy
    have p1 : (0 ≤ ((k + 1 : Nat) : Int)) = True := eq_true (by omega)
    have p2 : (((k + 1 : Nat) : Int) < (xs.length : Int) + 1) = True := eq_true (by omega)
    have p3 : wrap64 (((k + 1 : Nat) : Int) + 1) = ((k + 1 + 1 : Nat) : Int) := by have := HL.out; rw [wrap_id (by omega) (by omega)]; omega
    have e1 : (xs.take (k + 1)).foldl top x = top ((xs.take k).foldl top x) (xs.getD k 0) := by
     rw [List.take_add_one, List.foldl_append, List.getD_eq_getElem?_getD, List.getElem?_eq_getElem hkl]
     rfl
    have E1 := Aside0.mk e1
    have P3 := Aside0.mk p3
    clear e1 p3 hC2
    generalize ((k + 1 : Nat) : Int) = K at *
    generalize hM : (xs.take k).foldl top x = M at *
    generalize hY : xs.getD k 0 = Y at *
    go_wp2
    all_goals
     go_roundg (xs.length - k)
     case measure => omega
     case rel => exact ⟨k + 1, by first | rw [P3.out] | rfl, by rw [E1.out]; unfold top; split <;> first | rfl | (exfalso; omega), by omega, by omega, HB⟩
   ·
    obtain rfl : k = xs.length := by omega
    have c3 : decide ((xs.length : Int) + 1 < (xs.length : Int) + 1) = false := decide_eq_false (by omega)
    rw [List.take_length]
    go_wp2
    go_ret
    exact ⟨rfl, HB.out⟩
end Go.Proofs.Ytdahdeohmbadhaa.TMax

namespace Go.Proofs.Ytdahdeohmbadhaa.TRep
open Go.RowKit Go.Lib Go.Proofs Go.Proofs.YtdahdeohmbadhaaW.PrintWords Go.Proofs.YtdahdeohmbadhaaW.PrintWords.Kd Go.Proofs.YtdahdeohmbadhaaW.PrintLast Go.Proofs.YtdahdeohmbadhaaW.PrintMore Go.Proofs.Ytdahdeohmbadhaa.G Go.Proofs.Ytdahdeohmbadhaa.Fam Go.Proofs.Ytdahdeohmbadhaa.Loops
set_option linter.unusedVariables false
set_option linter.unusedSimpArgs false

theorem infoI1 : (Try.prog.info? 2).map (·.size) = some 1 := by kernel_rfl
theorem splice_take {cur : List Value} {x : Value} {k m : Nat} (h : cur.take k = List.replicate k x) (hk : k ≤ cur.length) : (splice cur k (List.replicate m x)).take (k + m) = List.replicate (k + m) x := by
 unfold splice
 rw [h, ← List.append_assoc, List.replicate_append_replicate]
 exact List.take_left' (by simp)
theorem splice_len {cur cs : List Value} {k : Nat} (h : k + cs.length ≤ cur.length) : (splice cur k cs).length = cur.length := by
 unfold splice
 simp
 omega
set_option maxHeartbeats 8000000 in
set_option maxRecDepth 100000 in
theorem repeat_calls (n : Nat) (hn : 1 ≤ n ∧ n ≤ 7) (p : Int) (A : Option Addr) (c : Nat) (w : World) (hC : Kd.C (Kd.int .i64) w A 1 [p]) :
  Calls Try.prog 108 #[.slice A 1 c, .int .i64 (n : Int)] w fun e w' => ∃ v, e = .returned v ∧ Kd.R (Kd.int .i64) 2 w' w.heap.size (fun _ => True) v (List.replicate n p) ∧ Below w.heap.size w w' := by
 have HM : ∀ W, Calls Try.prog 150 #[.int .u64 1, .int .u64 (n : Int)] W fun e w' => e = .returned (.tuple #[.int .u64 0, .int .u64 (n : Int)]) ∧ w' = W := fun W => by
  have h := Try.bits_Mul 1 n (by decide) (by omega) W
  rw [show 1 * n / 18446744073709551616 = 0 by omega, show 1 * n % 18446744073709551616 = n by omega] at h
  exact h
 have HN := Aside0.mk hn
 have HC := Aside0.mk hC
 have c1 : decide ((n : Int) < 0) = false := decide_eq_false (by omega)
 have c2 : IntKind.u64.wrap (n : Int) = (n : Int) := by simp [IntKind.wrap, IntKind.bits]; omega
 have c3 : decide (9223372036854775807 < (n : Int)) = false := decide_eq_false (by omega)
 have c4 : IntKind.i64.wrap (n : Int) = (n : Int) := by
  first | exact (show wrap64 (n : Int) = (n : Int) from wrap_id (by omega) (by omega)) | (rw [show IntKind.i64.wrap (n : Int) = wrap64 (n : Int) from rfl]; exact wrap_id (by omega) (by omega)) | (rw [i64_w]; exact wrap_id (by omega) (by omega))
 clear hn hC
 go_enter Try.func108, Try.ntmps108
 go_wp2_with (first | (go_at_call 150; refine (HM _).mono ?_; rintro e w9 ⟨rfl, he⟩; subst w9) | ((with_reducible refine gate_dst (N := 30) rfl ?_); refine Kd.R_make (Kd.int .i64) _ 2 rfl (N := 30) rfl 22 _ _ rfl (n : Int) rfl rfl Try.underlying22 (.int .i64 0) 8 info2 rfl (by decide) (by omega) 0 (ok := fun _ => True) (okp := fun _ => True) rfl (fun _ hk => hk) trivial (by omega) (by have := HN.out; omega) (Below.refl _ _) (Nat.le_refl _) ?_; intro v1 w1 ho hbl hg_ hnew_; clear hg_ hnew_; have HO1 := Aside0.mk ho; have HB1 := Aside0.mk hbl; clear ho hbl) | ((with_reducible refine gate_dst (N := 33) rfl ?_); refine Kd.R_copy 0 (w0 := w) w.heap.size rfl (.tmp 31) (.tmp 32) 22 22 2 rfl Try.underlying22 infoI1 v1 (List.replicate (n : Int).toNat 0) [p] A 1 c (fun _ => True) rfl rfl HO1.out (Kd.C_below HC.out HB1.out) HB1.out HB1.out.size ?_; intro w2 hr2 hb2 hg2; have HR2 := Aside0.mk hr2; have HB2 := Aside0.mk hb2; clear hr2 hb2 hg2))
 have hmin : min 1 (List.replicate (n : Int).toNat (0 : Int)).length = 1 := by have := HN.out; rw [List.length_replicate]; omega
 have hR := HR2.out
 rw [hmin] at hR
 have hm1 : min 1 n = 1 := by have := HN.out; omega
 rw [hm1]
 obtain ⟨hlen, hrow⟩ := own_of_R hR
 have hn0 : ([p].take 1 ++ (List.replicate (n : Int).toNat (0 : Int)).drop 1).length = n := by have := HN.out; simp; omega
 rw [hn0] at hlen hrow
 rcases hrow with ⟨_, h0⟩ | ⟨g, cap, cur, rfl, hgb, hheap, hcap, hmax, hsize, htake⟩
 ·
  exfalso; have := HN.out; omega
 have HGB := Aside0.mk hgb
 have HCAP := Aside0.mk (show n ≤ cap ∧ cap ≤ maxLen ∧ cur.toList.length = cap from ⟨hcap, hmax, by simpa using hsize⟩)
 have HI : Aside0 (w2.heap[g]? = some (.cells cur.toList.toArray 2 (0, 0))) := ⟨by simpa using hheap⟩
 have HT : Aside0 (cur.toList.take 1 = List.replicate 1 (.int .i64 p)) := ⟨by
  have h := congrArg (List.take 1) htake
  rw [List.take_take, Nat.mul_one, Nat.min_eq_left (by have := HN.out; omega)] at h
  rw [h]
  rfl⟩
 clear hm1 hR hlen hn0 hgb hcap hmax hsize htake hmin hheap HM HO1 HB1 HR2 c2 c3 HC
 go_loopg [8] n (fun gg v8 wr => ∃ (k : Nat) (L : List Value), v8 = .int .i64 (k : Int) ∧ n - k ≤ gg ∧ Aside0 (1 ≤ k ∧ k ≤ n) ∧ Aside0 (wr.heap[g]? = some (.cells L.toArray 2 (0, 0))) ∧ Aside0 (L.length = cap) ∧ Aside0 (L.take k = List.replicate k (.int .i64 p)) ∧ Aside0 (Below w.heap.size w wr))
 case atStart => exact ⟨1, cur.toList, rfl, by omega, ⟨Nat.le_refl _, HN.out.1⟩, HI, ⟨HCAP.out.2.2⟩, HT, HB2⟩
 case round =>
  obtain ⟨k, L, rfl, hg2, HK, HI2, HL, HT2, HB3⟩ := hrel
  by_cases hk : k < n
  ·
   have c5 : decide ((k : Int) < (n : Int)) = true := decide_eq_true (by omega)
   have hkc : k ≤ cap := by have := HCAP.out; omega
   have hck : ¬ cap = k := by have := HCAP.out; omega
   have hm : min k (n - k) ≤ n - k := Nat.min_le_right _ _
   have hm2 : min k (n - k) ≤ k := Nat.min_le_left _ _
   have hm3 : 1 ≤ min k (n - k) := by have := HK.out; omega
   have HM2 := Aside0.mk (show 1 ≤ min k (n - k) ∧ min k (n - k) ≤ n - k ∧ min k (n - k) ≤ k ∧ min k (n - k) = min k (n - k) from ⟨hm3, hm, hm2, rfl⟩)
   have HC9 := Aside0.mk (show ∀ (j : Nat) (v : Value), (List.replicate (min k (n - k)) (Value.int .i64 p))[j]? = some v → wr.cell? ((⟨g, 0, none⟩ : Addr).add j) = some v from fun j v hv => by
    rw [List.getElem?_replicate] at hv
    split at hv
    ·
     rename_i hj
     injection hv with hv
     subst hv
     have h := congrArg (fun l => l[j]?) HT2.out
     simp only [List.getElem?_take, List.getElem?_replicate] at h
     rw [if_pos (by omega), if_pos (by omega)] at h
     have e2 : (⟨g, 0, none⟩ : Addr).add j = ⟨g, j, none⟩ := by
      unfold Addr.add
      split
      ·
       rename_i h0; simp [h0]
      ·
       simp
     rw [e2, blk_cell HI2.out j]
     simpa using h
    ·
     cases hv)
   generalize hmm : min k (n - k) = m at *
   clear hm hm2 hm3
   have hn7 := HN.out
   have hk1 := HK.out
   have hmk := HM2.out
   have hwr : wrap64 ((k : Int) + (m : Int)) = ((k + m : Nat) : Int) := by rw [wrap_id (by omega) (by omega)]; omega
   go_wp2
   go_region_law (refine step_copy_splice rfl (.tmp 41) (.tmp 44) 22 22 rfl 2 Try.underlying22 infoI1 (some ⟨g, k, none⟩) (some ⟨g, 0, none⟩) (n - k) (cap - k) k cap (by simp [Act.eval, Act.put, hck]) (by simp [Act.eval, Act.put]) g k L 2 HI2.out (List.replicate m (.int .i64 p)) (by rw [List.length_replicate, ← hmm]) (fun _ => ⟨rfl, ⟨g, 0, none⟩, rfl, HC9.out⟩) (by rw [List.length_replicate, HL.out]; have := HCAP.out; omega) (by intro v hv; rw [List.eq_of_mem_replicate hv]; rfl) w.heap.size w (below_drew1 HB3.out) HGB.out ?_; intro w4 hg4 hb4)
   go_wp2
   go_roundg (n - (k + m))
   case measure => omega
   case rel => exact ⟨k + m, splice L k (List.replicate m (.int .i64 p)), by first | rfl | (simp [hwr]; done) | (rw [← hwr]; simp [i64_w]; done) | (rw [← hwr]; simp; exact i64_w _), Nat.le_refl _, ⟨by omega⟩, ⟨hg4⟩, ⟨by rw [splice_len (by rw [List.length_replicate, HL.out]; have := HCAP.out; omega)]; exact HL.out⟩, ⟨splice_take HT2.out (by rw [HL.out]; exact hkc)⟩, ⟨hb4⟩⟩
  ·
   obtain rfl : k = n := by have := HK.out; omega
   have c5 : decide ((k : Int) < (k : Int)) = false := decide_eq_false (by omega)
   go_wp2
   go_ret
   refine ⟨.slice (some ⟨g, 0, none⟩) k cap, rfl, R_of_own ⟨by simp [encs], .inr ⟨g, cap, L.toArray, by rw [List.length_replicate], HGB.out, HI2.out, by rw [List.length_replicate]; exact HCAP.out.1, HCAP.out.2.1, by simpa using HL.out, by rw [List.length_replicate, Nat.mul_one, HT2.out]; simp [encs]⟩⟩ (fun _ _ => trivial), HB3.out⟩
/-- slices.Repeat of one number, at most seven times. -/
def RepF (l : List Int) (n : Int) : Option (List Int) := match l with | [p] => if 1 ≤ n ∧ n ≤ 7 then some (List.replicate n.toNat p) else none | _ => none
theorem rep_calls (A0 : Option Addr) (c0 : Nat) (l0 : List Int) (a1 : Int) (r : List Int) (w : World) (hr0 : Kd.C (Kd.int .i64) w A0 l0.length l0) (hc0 : l0.length ≤ c0) (h : RepF l0 a1 = some r) :
  Calls Try.prog 108 #[.slice A0 l0.length c0, .int .i64 a1] w fun e w' => ∃ v0_ : Value, e = .returned (v0_) ∧ Kd.R (Kd.int .i64) 2 w' w.heap.size (fun _ => True) v0_ r ∧ Below w.heap.size w w' := by
 unfold RepF at h
 split at h
 ·
  rename_i p
  split at h
  ·
   rename_i hn
   injection h with h
   subst h
   obtain ⟨n, rfl⟩ : ∃ n : Nat, a1 = (n : Int) := ⟨a1.toNat, by omega⟩
   exact repeat_calls n (by omega) p A0 c0 w hr0
  ·
   cases h
 ·
  cases h
end Go.Proofs.Ytdahdeohmbadhaa.TRep
