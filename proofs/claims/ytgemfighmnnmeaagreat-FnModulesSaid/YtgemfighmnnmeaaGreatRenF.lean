/- slices.Values over a row of numbers (a worked proof of the kit's, turned to this program). Contract of the program's isOrder. The program's question about an order is the reference's. No program in sight. Contract of the program's RenameHolders. -/
import Derived.Test.YtgemfighmnnmeaaGreatCrowds
import Derived.RangeFuncBox
import Derived.RangeFuncLeaves
import Derived.Shelf.Abstract
import Derived.WalkKit
import Derived.OwnWalkIn
import Derived.TacticsInMore
import Derived.LoopNIn
import Derived.LoopIn
import Derived.Maps.AppendAt
import Derived.Test.YtgemfighmnnmeaaGreatShelf
import Derived.Test.YtgemfighmnnmeaaGreatFrom
import Derived.Test.YtgemfighmnnmeaaGreatGx1
import Derived.Test.YtgemfighmnnmeaaGreatRen
namespace Go.Proofs.YtgemfighmnnmeaaGreat.Vals
open Go.RowKit Go.Shelf Go.Lib Go.Proofs Go.Sort Go.Proofs.YtgemfighmnnmeaaGreat.Sorting Go.Proofs.YtgemfighmnnmeaaGreatW.PrintWords Go.Proofs.YtgemfighmnnmeaaGreatW.PrintWords.Kd
set_option linter.unusedVariables false
set_option linter.unusedSimpArgs false
attribute [local go_sem] Oper.semAt_some

def upto {α : Type} (f : Nat → α) (k : Nat) : List α := (List.range k).map f
theorem upto_succ {α : Type} (f : Nat → α) (k : Nat) : upto f (k + 1) = upto f k ++ [f k] := by simp [upto, List.range_succ]
theorem upto_length {α : Type} (f : Nat → α) (k : Nat) : (upto f k).length = k := by simp [upto]
theorem upto_all (zs : List Int) : upto (fun j => zs[j]?.getD 0) zs.length = zs := by
 apply List.ext_getElem
 ·
  simp [upto]
 ·
  intro i h1 h2
  simp [upto, h2]

set_option maxRecDepth 100000 in
set_option maxHeartbeats 2000000 in
theorem values1_in (F : Fence) (n : Nat) (h7 : F.fn 68) (hro : F.round = none) (hn : 1 ≤ n) (l Bs n₀ b off len cap : Nat) (zs : List Int) (hreach : len * 8 ≤ 140737488351232) (hb : b < n₀) (J Jx : List Int → World → Prop)
  (hY : ∀ pre x W, J pre W → pre.length < len → YieldAt F (n - 1) Tryz.prog l #[.int .i64 x] W fun e W' =>
   (e = .returned (.bool true) ∧ J (pre ++ [x]) W' ∧ Below n₀ W W') ∨ (e = .returned (.bool false) ∧ Jx (pre ++ [x]) W'))
  (W : World) (hBs : W.cell? ⟨Bs, 0, none⟩ = some (.slice (some ⟨b, off, none⟩) len cap)) (hc : ∀ j, j < len → W.cell? ⟨b, off + j, none⟩ = some (.int .i64 (zs[j]?.getD 0))) (h0 : J [] W) :
  CallsIn F n Tryz.prog 68 #[.func (.yield l) #[] #[], .pointer (some ⟨Bs, 0, none⟩)] W fun e W' => (∃ v, e = .returned v) ∧
   ((∃ ys, ys = upto (fun j => zs[j]?.getD 0) len ∧ J ys W') ∨ (∃ pre, (∃ k, k ≤ len ∧ pre = upto (fun j => zs[j]?.getD 0) k) ∧ Jx pre W')) := by
 refine callsIn_of_wp Tryz.func68 rfl h7 ?_ hro
 simp only [Tryz.ntmps68, List.size_toArray, List.length_cons, List.length_nil, Nat.reduceAdd, Nat.reduceSub, Array.replicate_succ, Array.replicate_zero, List.push_toArray, List.append_toArray, List.nil_append, List.cons_append]
 gi_wp2
 gi_loopw [7] (fun i wr => ∃ k : Nat, k ≤ len ∧ i = .int .i64 k ∧ J (upto (fun j => zs[j]?.getD 0) k) wr ∧ Below n₀ W wr)
  (fun i _ => len - (intOf i).toNat)
 case atStart => exact ⟨0, Nat.zero_le _, rfl, h0, Below.refl _ _⟩
 case round =>
  obtain ⟨k, hk, rfl, hJs, hnx⟩ := hrel
  have hcx : k < len → wr.cell? ⟨b, off + k, none⟩ = some (.int .i64 (zs[k]?.getD 0)) := fun h => (hnx.cell (p := ⟨b, off + k, none⟩) hb).trans (hc k h)
  by_cases hlt : k < len
  ·
   obtain ⟨fn, tmps, assign, body, hy, hR⟩ := hY _ (zs[k]?.getD 0) wr hJs (by rw [upto_length]; exact hlt)
   have hcx' := hcx hlt
   gi_wp2
   refine hR.mono ?_
   rintro e W3 (⟨rfl, hJ3, hk3⟩ | ⟨rfl, hJx3⟩)
   ·
    gi_wp2
    go_roundw
    case rel => exact ⟨k + 1, by omega, by simp, by rw [upto_succ]; exact hJ3, hnx.trans hk3⟩
    case measure => simp [intOf]; omega
   ·
    gi_wp2
    refine bodyPost_ret (results_none rfl _ _ _) rfl ?_
    exact ⟨⟨_, rfl⟩, .inr ⟨_, ⟨k + 1, by omega, (upto_succ _ _).symm⟩, hJx3⟩⟩
  ·
   obtain rfl : k = len := by omega
   gi_wp2
   go_end0
   exact ⟨⟨_, rfl⟩, .inl ⟨_, rfl, hJs⟩⟩

theorem upto_take (zs : List Int) {k : Nat} (hk : k ≤ zs.length) : upto (fun j => zs[j]?.getD 0) k = zs.take k := by
 apply List.ext_getElem
 ·
  simp [upto, hk]
 ·
  intro i h1 h2
  have : i < zs.length := by simp [upto] at h1; omega
  simp [upto, this]

def Ints (n₀ : Nat) (W : World) (sv : Value) (zs : List Int) : Prop :=
 (sv = .slice none 0 0 ∧ zs = []) ∨ ∃ b off cap, sv = .slice (some ⟨b, off, none⟩) zs.length cap ∧ b < n₀ ∧ ∀ j, j < zs.length → W.cell? ⟨b, off + j, none⟩ = some (.int .i64 (zs[j]?.getD 0))
theorem Ints.below {n₀ : Nat} {A B : World} (h : Below n₀ A B) {sv : Value} {zs : List Int} : Ints n₀ A sv zs → Ints n₀ B sv zs
 | .inl e => .inl e
 | .inr ⟨b, off, cap, e, hb, hc⟩ => .inr ⟨b, off, cap, e, hb, fun j hj => (h.cell (p := ⟨b, off + j, none⟩) hb).trans (hc j hj)⟩

set_option maxRecDepth 100000 in
set_option maxHeartbeats 1000000 in
theorem values1_nil_in (F : Fence) (n : Nat) (h7 : F.fn 68) (hro : F.round = none) (l Bs : Nat) (J : List Int → World → Prop) (W : World) (hBs : W.cell? ⟨Bs, 0, none⟩ = some (.slice none 0 0)) (h0 : J [] W) :
  CallsIn F n Tryz.prog 68 #[.func (.yield l) #[] #[], .pointer (some ⟨Bs, 0, none⟩)] W fun e W' => (∃ v, e = .returned v) ∧ J [] W' := by
 refine callsIn_of_wp Tryz.func68 rfl h7 ?_ hro
 simp only [Tryz.ntmps68, List.size_toArray, List.length_cons, List.length_nil, Nat.reduceAdd, Nat.reduceSub, Array.replicate_succ, Array.replicate_zero, List.push_toArray, List.append_toArray, List.nil_append, List.cons_append]
 gi_wp2
 gi_loopw [7] (fun i wr => i = .int .i64 0 ∧ J [] wr) (fun _ _ => 0)
 case atStart => exact ⟨rfl, h0⟩
 case round =>
  obtain ⟨rfl, hJs⟩ := hrel
  gi_wp2
  go_end0
  exact ⟨⟨_, rfl⟩, hJs⟩

set_option maxHeartbeats 1000000 in
theorem values_in (F : Fence) (n : Nat) (h5 : F.fn 54) (hro : F.round = none) (a : Option Addr) (len cap : Nat) (w : World) :
  CallsIn F n Tryz.prog 54 #[.slice a len cap] w fun e w' => e = .returned (.func (.func 68) #[] #[.pointer (some ⟨w.heap.size, 0, none⟩)]) ∧ w' = w.alloc (.cells #[.slice a len cap] 27) := by
 refine callsIn_of_wp Tryz.func54 rfl h5 ?_ hro
 simp only [Tryz.ntmps54, List.size_toArray, List.length_cons, List.length_nil, Nat.reduceAdd, Nat.reduceSub, Array.replicate_succ, Array.replicate_zero, List.push_toArray, List.append_toArray, List.nil_append, List.cons_append]
 gi_wp2
 go_ret
 exact ⟨rfl, rfl⟩

theorem values_stops (F : Fence) (n : Nat) (h7 : F.fn 68) (hro : F.round = none) (hn : 1 ≤ n) (Bs n₀ : Nat) (sv : Value) (zs : List Int) (hreach : zs.length * 8 ≤ 140737488351232) (w : World) (hBs : Bs < w.heap.size) (hn₀ : n₀ ≤ w.heap.size)
  (hc : w.cell? ⟨Bs, 0, none⟩ = some sv) (hI : Ints n₀ w sv zs) :
  SeqStopsK F n Tryz.prog 68 #[.pointer (some ⟨Bs, 0, none⟩)] (fun x : Int => #[Value.int .i64 x]) (Below n₀) (fun ys => ys = zs) (fun pre => pre <+: zs) zs.length w := fun l J Jx W hW _ _ hY h0 => by
 have hc' := (hW.cell (p := ⟨Bs, 0, none⟩) hBs).trans hc
 rcases hI.below (hW.mono hn₀) with ⟨rfl, rfl⟩ | ⟨b, off, cap, rfl, hb, hcs⟩
 ·
  exact (values1_nil_in F n h7 hro l Bs J W hc' h0).mono fun e W' ⟨he, hj⟩ => ⟨he, .inl ⟨_, rfl, hj⟩⟩
 ·
  refine (values1_in F n h7 hro hn l Bs n₀ b off zs.length cap zs hreach hb J Jx hY W hc' hcs h0).mono ?_
  rintro e W' ⟨he, ⟨ys, rfl, hj⟩ | ⟨pre, ⟨k, hk, rfl⟩, hj⟩⟩
  ·
   exact ⟨he, .inl ⟨_, upto_all zs, hj⟩⟩
  ·
   exact ⟨he, .inr ⟨_, by rw [upto_take zs hk]; exact List.take_prefix _ _, hj⟩⟩

theorem infoI : (Tryz.prog.info? 2).map (fun i => (i.zero, i.size, i.bytes)) = some (some (.int .i64 0), 1, 8) := by kernel_rfl
set_option maxRecDepth 100000 in
set_option maxHeartbeats 2000000 in
theorem append_in (F : Fence) (n : Nat) (hA : F.fn 85) (h7 : F.fn 68) (hro : F.round = none) (hn : 3 ≤ n) (Bs : Nat) (sv : Value) (zs : List Int) (hlen : zs.length ≤ maxLen) (hreach : zs.length * 8 ≤ 140737488351232) (w : World) (hBs : Bs < w.heap.size) (hc0 : w.cell? ⟨Bs, 0, none⟩ = some sv) (hI0 : Ints w.heap.size w sv zs) :
  CallsIn F n Tryz.prog 85 #[.slice none 0 0, .func (.func 68) #[] #[.pointer (some ⟨Bs, 0, none⟩)]] w fun e W' => ∃ v, e = .returned v ∧ W'.ownsRow w.heap.size 2 1 v zs.length (zs.map (Value.int .i64)) ∧ (v = .slice none 0 0 ↔ zs = []) ∧ Below w.heap.size w W' := by
 have h1 : 1 ≤ n := by omega
 obtain ⟨i0, hi, hz0, hz1, hz2⟩ := info_parts infoI
 refine callsIn_of_wp_marks Tryz.func85 rfl hA ?_ hro
 simp only [Tryz.ntmps85, List.size_toArray, List.length_cons, List.length_nil, Nat.reduceAdd, Nat.reduceSub, Array.replicate_succ, Array.replicate_zero, List.push_toArray, List.append_toArray, List.nil_append, List.cons_append]
 gi_wp2
 have bO := Boxed.new w 27 (.slice none 0 0)
 have hB0 : Below w.heap.size w (w.alloc (.cells #[.slice none 0 0] 27)) := (Below.refl _ w).alloc (Nat.le_refl _) _
 refine wpIn_rangeFunc_ownG hro h1 (gf := 68) (lb := #[.pointer (some ⟨Bs, 0, none⟩)]) rfl h7 (enters_of Tryz.func68 (by kernel_rfl) rfl)
  (values_stops F (n - 1) h7 hro (by omega) Bs w.heap.size sv zs hreach _ (by simp; omega) (by simp) ((hB0.cell (p := ⟨Bs, 0, none⟩) hBs).trans hc0) (hI0.below hB0)) belowK_t (belowK_b (by simp)) (Below.refl _ _) (fun _ => rfl)
  (fun pre W => (∃ v, Boxed W w.heap.size 27 v ∧ W.ownsRow w.heap.size 2 1 v pre.length (pre.map (Value.int .i64)) ∧ (v = .slice none 0 0 ↔ pre = [])) ∧ Below w.heap.size w W)
  (fun _ _ _ => False)
  (OwnFrom.and (Own.from (holdsRow_own w.heap.size w.heap.size 27 2 1 (fun pre : List Int => pre.length) (fun pre => pre.map (Value.int .i64)) (fun pre v => v = .slice none 0 0 ↔ pre = [])) _) (ownFrom_below (Nat.le_refl _) (by simp)))
  (fun _ _ _ _ _ hs _ _ => hs)
  ⟨⟨_, bO, World.ownsRow_nil _ _ _ _, by simp⟩, hB0⟩
  (fun x => { tmps := #[.slice none 0 0, .func (.func 68) #[] #[.pointer (some ⟨Bs, 0, none⟩)], .pointer (some ⟨w.heap.size, 0, none⟩), undef, .slice none 0 0, .int .i64 x, .func (.func 68) #[] #[.pointer (some ⟨Bs, 0, none⟩)], .int .i64 x, undef, undef, undef, undef, undef], defers := [] }) ?assign ?body ?done ?stop
 case assign =>
  intro l x W K hK
  gi_wp2
  exact hK
 case body =>
  rintro l pre x W ⟨⟨v, hv, hrow, hnil⟩, hB⟩ hlt
  have hc := hv.cell
  gi_wp2_with (gi_at_builtin; refine wpListIn_append_own _ rfl _ _ 27 rfl w.heap.size 2 i0 (.int .i64 0) 1 8 Tryz.underlying27 hi hz0 hz1 hz2 rfl (by decide) _ _ _ rfl (hrow.alloc _) ⟨W.heap.size, 0, none⟩ 1 1 [.int .i64 x] rfl rfl (cell_one_new _ _ _) (by simp [Value.oneCell']) (by omega) (by omega) (by have := hB.size; simp; omega) ?_; intro v' w1 hown' hgrow _; obtain ⟨g', cap', rfl⟩ := ownsRow_succ hown'; obtain ⟨hv1, hv2, hr2, hk2, hb2⟩ := hv.appended (by decide) hrow hB.size (Nat.le_refl _) hown' hgrow; have hc1 := hv1.cell; have hf1 := hv1.frozen)
  exact ⟨hk2.from _, hb2, ⟨_, hv2, by simpa using hr2, by simp⟩, hB.trans hb2⟩
 case done =>
  rintro D ys W hD rfl ⟨⟨v, hv, hrow, hnil⟩, hB⟩ hK
  have hc := hv.cell
  gi_wp2
  refine ⟨by simp, .inl ⟨_, _, rfl, run_takeDeferred hK, ?_⟩⟩
  exact ⟨_, results_tmp rfl _ _ _, v, rfl, ownsRow_putObj hrow _ hK rfl, hnil, hB.trans (belowK_b (w := w) (Nat.le_refl _) W D _ _ (by simp at hD; omega) hK rfl rfl)⟩
 case stop =>
  rintro D c pre W _ _ h _
  exact h.elim

set_option maxHeartbeats 1000000 in
theorem collect_in (F : Fence) (n : Nat) (hC : F.fn 66) (hA : F.fn 85) (h7 : F.fn 68) (hro : F.round = none) (hn : 4 ≤ n) (Bs : Nat) (sv : Value) (zs : List Int) (hlen : zs.length ≤ maxLen) (hreach : zs.length * 8 ≤ 140737488351232) (w : World) (hBs : Bs < w.heap.size) (hc0 : w.cell? ⟨Bs, 0, none⟩ = some sv) (hI0 : Ints w.heap.size w sv zs) :
  CallsIn F n Tryz.prog 66 #[.func (.func 68) #[] #[.pointer (some ⟨Bs, 0, none⟩)]] w fun e W' => ∃ v, e = .returned v ∧ W'.ownsRow w.heap.size 2 1 v zs.length (zs.map (Value.int .i64)) ∧ (v = .slice none 0 0 ↔ zs = []) ∧ Below w.heap.size w W' := by
 have h1 : 1 ≤ n := by omega
 refine callsIn_of_wp Tryz.func66 rfl hC ?_ hro
 simp only [Tryz.ntmps66, List.size_toArray, List.length_cons, List.length_nil, Nat.reduceAdd, Nat.reduceSub, Array.replicate_succ, Array.replicate_zero, List.push_toArray, List.append_toArray, List.nil_append, List.cons_append]
 gi_wp2_with (gi_at_call 85; refine (append_in F (n - 1) hA h7 hro (by omega) Bs sv zs hlen hreach w hBs hc0 hI0).mono ?_; rintro e w' ⟨v, rfl, hr, hnil, hb⟩)
 go_ret
 exact ⟨v, rfl, hr, hnil, hb⟩

/-- The numbers of a list, in order. -/
def ascL (zs : List Int) : List Int := zs.mergeSort fun x y => decide (x ≤ y)
theorem ascL_len (zs : List Int) : (ascL zs).length = zs.length := List.length_mergeSort _
set_option maxHeartbeats 2000000 in
theorem sorted_of (Bs : Nat) (sv : Value) (zs : List Int) (hpos : 0 < zs.length) (hlen : zs.length ≤ 1048576) (w : World) (hBs : Bs < w.heap.size) (hc0 : w.cell? ⟨Bs, 0, none⟩ = some sv) (hI0 : Ints w.heap.size w sv zs) :
  Calls Tryz.prog 53 #[.func (.func 68) #[] #[.pointer (some ⟨Bs, 0, none⟩)]] w fun e w' => ∃ v, e = .returned v ∧ Kd.R (Kd.int .i64) 2 w' w.heap.size (fun _ => True) v (ascL zs) ∧ Below w.heap.size w w' := by
 have HC := callsIn_wide.1 (collect_in Fence.wide 4 trivial trivial trivial rfl (Nat.le_refl _) Bs sv zs (by unfold maxLen; omega) (by omega) w hBs hc0 hI0)
 clear hc0 hI0
 go_enter Tryz.func53, Tryz.ntmps53
 go_wp2_with (fail)
 (refine HC.mono ?_; clear HC; rintro e W ⟨v, rfl, hrow, hnil, hb⟩)
 rcases hrow.2 with ⟨rfl, hz⟩ | ⟨gb, cap, cur, rfl, hbase, hgb, r1, r2, r3, r4⟩
 ·
  exact absurd hz (by omega)
 ·
  have hH := holds_of_block hgb (by simpa using r4)
  have hgl : gb < W.heap.size := (Array.getElem?_eq_some_iff.1 hgb).1
  have HS := Tryz.slices_Sort_int gb 0 cap zs W hH hgl (by omega)
  clear hrow hnil
  go_wp2_with (fail)
  (refine HS.mono ?_; clear HS; rintro e w' ⟨rfl, nn, os, rfl⟩)
  go_wp2_with (fail)
  go_ret
  have hl := ascL_len zs
  have hw := heap_sorted (enc := Value.int .i64) (n := nn) (os := os) (ascL zs).toArray hgb
  have hg := grownBy_sorted (enc := Value.int .i64) (w := W) (g := gb) (n := nn) (os := os) (ascL zs).toArray
  have ht := take_putCells (enc := Value.int .i64) cur (ascL zs) (by omega)
  unfold sortWorld at hw hg
  unfold ascL at hl hw hg ht ⊢
  refine ⟨.slice (some ⟨gb, 0, none⟩) zs.length cap, rfl, R_of_own ⟨by simp [encs], .inr ⟨gb, cap, _, by rw [hl], hbase, hw, by omega, r2, by simp [putCells, r3], by rw [Nat.mul_one]; exact ht⟩⟩ (fun _ _ => trivial), hb.grown hg hb.size (fun j hj => by cases hj; exact hbase)⟩

end Go.Proofs.YtgemfighmnnmeaaGreat.Vals

namespace Go.Proofs.YtgemfighmnnmeaaGreat.IsOrder
open Go.RowKit Go.Lib Go.Proofs Go.Proofs.YtgemfighmnnmeaaGreatW.PrintWords Go.Proofs.YtgemfighmnnmeaaGreatW.PrintWords.Kd Go.Proofs.YtgemfighmnnmeaaGreatW.PrintLast Go.Proofs.YtgemfighmnnmeaaGreatW.PrintMore Go.Proofs.YtgemfighmnnmeaaGreat.G Go.Proofs.YtgemfighmnnmeaaGreat.Fam Go.Proofs.YtgemfighmnnmeaaGreat.Loops Go.Proofs.YtgemfighmnnmeaaGreat.Bits Go.Proofs.YtgemfighmnnmeaaGreat.Sorting Go.Proofs.YtgemfighmnnmeaaGreat.Crowds Go.Proofs.YtgemfighmnnmeaaGreat.Idx Go.Proofs.YtgemfighmnnmeaaGreat.Valid Go.Proofs.YtgemfighmnnmeaaGreat.FamLaw Go.Proofs.YtgemfighmnnmeaaGreat.Opens Go.Proofs.YtgemfighmnnmeaaGreat.Ops Go.Proofs.YtgemfighmnnmeaaGreat.Vals
set_option linter.unusedVariables false
set_option linter.unusedSimpArgs false

theorem ints_of {W : World} {A : Option Addr} {cap : Nat} {l : List Int} (h : Kd.C (Kd.int .i64) W A l.length l) (hp : 0 < l.length) : Ints W.heap.size W (.slice A l.length cap) l := by
 obtain ⟨ad, v, e, hc, hK⟩ := elem_at (d := Kd.int .i64) rfl h 0 hp
 subst e
 obtain ⟨b, off, x⟩ := ad
 have hx : x = none := by
  cases x with
  | none => rfl
  | some y =>
   simp [World.cell?, Addr.add] at hc
   split at hc <;> cases hc
 subst hx
 refine .inr ⟨b, off, cap, rfl, World.block_lt_of_cell? W _ hc, fun j hj => ?_⟩
 obtain ⟨ad', v', e', hc', hK'⟩ := elem_at (d := Kd.int .i64) rfl h j hj
 injection e' with e'
 subst e'
 have : v' = .int .i64 l[j] := by simpa [Kd.int, Kd.scalar] using hK'
 rw [this] at hc'
 have e2 : (⟨b, off, none⟩ : Addr).add j = ⟨b, off + j, none⟩ := by
  unfold Addr.add
  split
  ·
   rename_i h0; simp [h0]
  ·
   rfl
 rw [e2] at hc'
 simpa [List.getElem?_eq_getElem hj] using hc'
theorem isGroup_calls (n : Nat) (hn : n ≤ 7) (A : Option Addr) (c : Nat) (g : List Int) (W : World) (hC : Kd.C (Kd.int .i64) W A g.length g) (hc : g.length ≤ c) :
  Calls Tryz.prog 23 #[.int .i64 (n : Int), .slice A g.length c] W fun e w' => e = .returned (.bool (decide (isGroupN n g))) ∧ ∃ q, w' = W.drewN q := by
 exact (impl_isGroup.calls (g.length + 1) (n : Int) A c g _ W hC hc (isGroup_is n g _ (by omega) hC.2.1 (by omega))).mono fun e w' ⟨he, hd⟩ => ⟨he, hd.out⟩
set_option maxHeartbeats 2000000 in
theorem isOrder_calls (n : Nat) (h1 : 1 ≤ n) (hn : n ≤ 7) (A : Option Addr) (cap : Nat) (l : List Int) (W : World) (hC : Kd.C (Kd.int .i64) W A l.length l) (hc : l.length ≤ cap) :
  Calls Tryz.prog 38 #[.int .i64 (n : Int), .slice A l.length cap] W fun e w' => e = .returned (.bool (decide (l.length = n ∧ isGroupN n (ascL l)))) ∧ Below W.heap.size W w' := by
 by_cases hl : l.length = n
 ·
  subst hl
  have HV := callsIn_wide.1 (values_in Fence.wide 1 trivial rfl A l.length cap W)
  have HS := fun W1 (hW1 : W1 = W.alloc (.cells #[.slice A l.length cap] 27)) => sorted_of W.heap.size (.slice A l.length cap) l (by omega) (by omega) W1 (by rw [hW1]; simp) (by rw [hW1]; exact (blk_cell (blk_new W _) 0).trans rfl) (ints_of (by rw [hW1]; exact Kd.C_alloc hC _) (by omega))
  have HG := fun W A c h1 h2 => isGroup_calls l.length hn A c (ascL l) W h1 h2
  rw [decide_eq_decide.2 (show (l.length = l.length ∧ isGroupN l.length (ascL l)) ↔ isGroupN l.length (ascL l) from ⟨fun h => h.2, fun h => ⟨rfl, h⟩⟩)]
  go_enter Tryz.func38, Tryz.ntmps38
  go_wp2_with (first | (go_at_call 54; refine HV.mono ?_; rintro e w1 ⟨rfl, rfl⟩) | (go_at_call 53; refine (HS _ rfl).mono ?_; rintro e w2 ⟨v2, rfl, hr, hb⟩; obtain ⟨A2, c2, rfl⟩ := R_slice hr; have HR := Aside0.mk (R_reads' hr); have HB := Aside0.mk (below_then (B := W.heap.size) (below_alloc (Below.refl _ _) _) (by simp) hb); clear hr hb) | (go_at_call 23; refine (HG _ A2 c2 HR.out.2.2 HR.out.2.1).mono ?_; rintro e w3 ⟨rfl, q, rfl⟩))
  go_ret
  exact ⟨rfl, pw_below_drewN HB.out q⟩
 ·
  rw [decide_eq_false (fun h => hl h.1)]
  have hne : ¬ (l.length : Int) = (n : Int) := by omega
  have hnd : decide ((l.length : Int) = (n : Int)) = false := decide_eq_false hne
  go_enter Tryz.func38, Tryz.ntmps38
  go_wp2_with (fail)
  go_ret
  exact ⟨rfl, Below.refl _ _⟩

end Go.Proofs.YtgemfighmnnmeaaGreat.IsOrder

namespace Go.Proofs.YtgemfighmnnmeaaGreat.OrderIff
open Go.Proofs.YtgemfighmnnmeaaGreat.Fam Go.Proofs.YtgemfighmnnmeaaGreat.Order Go.Proofs.YtgemfighmnnmeaaGreat.OrderLaw Go.Proofs.YtgemfighmnnmeaaGreat.RenLaw Go.Proofs.YtgemfighmnnmeaaGreat.Vals

theorem asc_perm (l : List Int) : (ascL l).Perm l := List.mergeSort_perm _ _
theorem asc_mem {l : List Int} {x : Int} : x ∈ ascL l ↔ x ∈ l := (asc_perm l).mem_iff
theorem asc_sorted (l : List Int) : (ascL l).Pairwise (· ≤ ·) := by
 have h := List.pairwise_mergeSort (le := fun x y : Int => decide (x ≤ y)) (fun a b c h1 h2 => by simp only [decide_eq_true_eq] at *; omega) (fun a b => by simp only [Bool.or_eq_true, decide_eq_true_eq]; omega) l
 exact h.imp (fun h => of_decide_eq_true h)
theorem seen_asc (l : List Int) : seenN 0 l = bitsN (ascL l) := by
 apply Nat.eq_of_testBit_eq
 intro j
 rw [seen_bit, bitsN_test, Nat.zero_testBit, Bool.false_or, Bool.eq_iff_iff, List.any_eq_true, List.any_eq_true]
 exact ⟨fun ⟨x, hx, h⟩ => ⟨x, asc_mem.2 hx, h⟩, fun ⟨x, hx, h⟩ => ⟨x, asc_mem.1 hx, h⟩⟩
theorem order_iff {n : Nat} (hn : n ≤ 7) (l : List Int) : (l.length = n ∧ isGroupN n (ascL l)) ↔ OrderOk (n : Int) l := by
 constructor
 ·
  rintro ⟨hl, hg⟩
  refine ⟨fun x hx => ?_, by omega, ?_⟩
  ·
   have := hg.1 x (asc_mem.2 hx)
   omega
  ·
   rw [seen_asc, groupN_bitsN hn hg, ascL_len, hl]
 ·
  intro h
  have hl : l.length = n := by have := h.2.1; omega
  refine ⟨hl, fun x hx => ?_, ?_⟩
  ·
   have := h.1 x (asc_mem.1 hx)
   omega
  ·
   have hs := ord_surj hn h
   have hall : ∀ j, j < n → j ∈ l.map Int.toNat := fun j hj => by
    obtain ⟨k, hk, e⟩ := hs j hj
    rw [List.mem_map]
    refine ⟨l.getD k 0, ?_, e⟩
    rw [show l.getD k 0 = l[k]'(by omega) by simp [List.getD, show k < l.length by omega]]
    exact List.getElem_mem _
   have hnd := nodup_of_all n (l.map Int.toNat) hall (by simp [hl])
   have hnd2 : l.Nodup := List.Pairwise.of_map Int.toNat (fun a b (h : a.toNat ≠ b.toNat) => show a ≠ b from fun e => h (by rw [e])) hnd
   have hnd3 : (ascL l).Nodup := (asc_perm l).nodup_iff.2 hnd2
   have hp := (asc_sorted l).and hnd3
   exact hp.imp (fun h => by have h1 := h.1; have h2 := h.2; omega)

end Go.Proofs.YtgemfighmnnmeaaGreat.OrderIff

namespace Go.Proofs.YtgemfighmnnmeaaGreat.RenF
open Go.RowKit Go.Lib Go.Proofs Go.Proofs.YtgemfighmnnmeaaGreatW.PrintWords Go.Proofs.YtgemfighmnnmeaaGreatW.PrintWords.Kd Go.Proofs.YtgemfighmnnmeaaGreatW.PrintLast Go.Proofs.YtgemfighmnnmeaaGreatW.PrintMore Go.Proofs.YtgemfighmnnmeaaGreat.G Go.Proofs.YtgemfighmnnmeaaGreat.Fam Go.Proofs.YtgemfighmnnmeaaGreat.Loops Go.Proofs.YtgemfighmnnmeaaGreat.Bits Go.Proofs.YtgemfighmnnmeaaGreat.Sorting Go.Proofs.YtgemfighmnnmeaaGreat.Crowds Go.Proofs.YtgemfighmnnmeaaGreat.FamOf Go.Proofs.YtgemfighmnnmeaaGreat.Idx Go.Proofs.YtgemfighmnnmeaaGreat.Valid Go.Proofs.YtgemfighmnnmeaaGreat.FamLaw Go.Proofs.YtgemfighmnnmeaaGreat.Opens Go.Proofs.YtgemfighmnnmeaaGreat.Ops Go.Proofs.YtgemfighmnnmeaaGreat.Vals Go.Proofs.YtgemfighmnnmeaaGreat.IsOrder Go.Proofs.YtgemfighmnnmeaaGreat.OrderLaw Go.Proofs.YtgemfighmnnmeaaGreat.RenLaw
set_option linter.unusedVariables false
set_option linter.unusedSimpArgs false

/-- The image of the first i of a list of holders. -/
def imgL (order L : List Int) (i : Nat) : Nat := (L.take i).foldl (fun d h => d ||| 1 <<< ordN order h.toNat) 0
theorem imgL_succ (order L : List Int) (i : Nat) (h : i < L.length) : imgL order L (i + 1) = imgL order L i ||| 1 <<< ordN order (L.getD i 0).toNat := by
 unfold imgL
 rw [List.take_succ_eq_append_getElem h, List.foldl_append]
 simp [List.getD, h]
theorem imgL_bits (order : List Int) : ∀ (L : List Int) (s j : Nat), (L.foldl (fun d (h : Int) => d ||| 1 <<< ordN order h.toNat) s).testBit j = (s.testBit j || L.any fun h => decide (ordN order h.toNat = j))
 | [], s, j => by simp
 | x :: L, s, j => by
  rw [List.foldl_cons, imgL_bits order L, Nat.testBit_or, Nat.one_shiftLeft, Nat.testBit_two_pow, List.any_cons, Bool.or_assoc]
theorem imgL_lt {n : Nat} (hn : n ≤ 7) {order : List Int} (ho : ∀ k, ordN order k < 7) (L : List Int) (i : Nat) : imgL order L i < 128 := by
 refine Nat.lt_pow_two_of_testBit (n := 7) _ (fun j hj => ?_)
 unfold imgL
 rw [imgL_bits, Nat.zero_testBit, Bool.false_or, List.any_eq_false]
 intro h _
 have := ho h.toNat
 simp
 omega
theorem imgL_all {n c : Nat} (hn : n ≤ 7) (hc : c < 2 ^ n) (order : List Int) : imgL order (groupN c) (groupN c).length = imgB n (ordN order) c := by
 apply Nat.eq_of_testBit_eq
 intro j
 unfold imgL
 rw [List.take_length, imgL_bits, Nat.zero_testBit, Bool.false_or, Bool.eq_iff_iff, img_bit, List.any_eq_true]
 constructor
 ·
  rintro ⟨x, hx, e⟩
  rw [groupN_mem] at hx
  exact ⟨x.toNat, lt_of_bit hc hx.2.2, hx.2.2, of_decide_eq_true e⟩
 ·
  rintro ⟨k, hk, hb, e⟩
  exact ⟨(k : Int), by rw [groupN_mem]; exact ⟨by omega, by omega, by simpa using hb⟩, by simpa using e⟩

theorem row_cell {W : World} {A : Option Addr} {l : List Int} (h : Kd.C (Kd.int .i64) W A l.length l) {i : Nat} (hi : i < l.length) : ∃ ad, A = some ad ∧ W.cell? (ad.add i) = some (.int .i64 (l.getD i 0)) := by
 obtain ⟨ad, v, e, hc, hK⟩ := elem_at (d := Kd.int .i64) rfl h i hi
 have : v = .int .i64 l[i] := by simpa [Kd.int, Kd.scalar] using hK
 exact ⟨ad, e, by rw [hc, this]; simp [List.getD, hi]⟩
/-- A row in a box. -/
def OBox (W : World) (b : Nat) (A : Option Addr) (cap : Nat) (l : List Int) : Prop := W.cell? ⟨b, 0, none⟩ = some (.slice A l.length cap) ∧ Kd.C (Kd.int .i64) W A l.length l ∧ l.length ≤ cap
theorem OBox.later {W W' : World} {b : Nat} {A : Option Addr} {cap : Nat} {l : List Int} (h : OBox W b A cap l) (hb : Below W.heap.size W W') : OBox W' b A cap l := ⟨pw_cell_below hb h.1, Kd.C_below h.2.1 hb, h.2.2⟩
theorem ro_all : ∀ y : Fin 7, ∀ d : Fin 128, Go.bits .or .u64 ((d.val : Nat) : Int) (IntKind.u64.wrap (2 ^ y.val)) = ((d.val ||| 1 <<< y.val : Nat) : Int) := by decide +kernel

set_option maxHeartbeats 4000000 in
set_option maxRecDepth 100000 in
theorem ren1_calls (n : Nat) (hn : n ≤ 7) (A : Option Addr) (cap : Nat) (gs : List (List Int)) (hcap : gs.length ≤ cap) (hs : Smalls gs) (order : List Int) (hlo : order.length = n) (hor : ∀ x ∈ order, 0 ≤ x ∧ x < 7) (AO : Option Addr) (cO BO BF : Nat) (W : World) (hF : FamBox W BF (n : Int) A cap gs) (hO : OBox W BO AO cO order) (c : Nat) (hc : c < 2 ^ n) :
  Calls Tryz.prog 39 #[.int .u64 (c : Int), .pointer (some ⟨BO, 0, none⟩), .pointer (some ⟨BF, 0, none⟩)] W fun e w' => e = .returned (.bool (openN gs (imgB n (ordN order) c))) ∧ Below W.heap.size W w' := by
 have hu := Tryz.underlying26
 have hc128 : c < 128 := Nat.lt_of_lt_of_le hc (two_pow_le hn)
 have hod : ∀ k, k < n → order.getD k 0 ∈ order := fun k hk => by
  rw [show order.getD k 0 = order[k]'(by omega) by simp [List.getD, show k < order.length by omega]]
  exact List.getElem_mem _
 have ho7 : ∀ k, ordN order k < 7 := fun k => by
  unfold ordN
  by_cases hk : k < n
  ·
   have := hor _ (hod k hk); omega
  ·
   rw [show order.getD k 0 = 0 by simp [List.getD, show ¬ k < order.length by omega]]; decide
 have hG := groupN_is hn hc
 have HGR := group_calls c hc128 W
 rw [← imgL_all hn hc order]
 have hI := imgL_lt hn ho7 (groupN c)
 have HOP := fun d (hd : d < 128) W h => opens_calls (n : Int) A cap gs d W h hcap hs hd
 have HIS := Aside0.mk (imgL_succ order (groupN c))
 have HI := Aside0.mk hI
 have HGE := Aside0.mk hG.1
 have HOD := Aside0.mk hod
 have HOR := Aside0.mk hor
 have HLO := Aside0.mk hlo
 have HOC := Aside0.mk (show ∀ k, ordN order k = (order.getD k 0).toNat from fun _ => rfl)
 have hGl : (groupN c).length ≤ 7 := by
  unfold groupN
  rw [List.length_map]
  have := List.length_filter_le c.testBit (List.range 7)
  simpa using this
 have HF := Aside0.mk hF
 have HO := Aside0.mk hO
 generalize groupN c = G at *
 clear hF hO hor hod ho7 hG hI hc hs
 go_enter Tryz.func39, Tryz.ntmps39
 go_wp2_with (go_at_call 22; refine HGR.mono ?_; clear HGR; rintro e w1 ⟨v1, rfl, hr, hb⟩; obtain ⟨A1, c1, rfl⟩ := R_slice hr; have HR := Aside0.mk (R_reads' hr); have HB1 := Aside0.mk hb; clear hr hb)
 go_loopg [5, 7, 11] G.length (fun gg v5 v7 v11 wr => ∃ (i : Nat) (u : Value), i ≤ G.length ∧ G.length - i ≤ gg ∧ v5 = .int .u64 ((imgL order G i : Nat) : Int) ∧ u = v7 ∧ v11 = .int .i64 (i : Int) ∧ Aside0 (Below w1.heap.size w1 wr))
 case atStart => exact ⟨0, _, Nat.zero_le _, by omega, rfl, rfl, rfl, ⟨Below.refl _ _⟩⟩
 case round =>
  obtain ⟨i, u, hiL, hgg, rfl, rfl, rfl, HB⟩ := hrel
  have HBW := Aside0.mk (below_then HB1.out HB1.out.size HB.out)
  have HFr := Aside0.mk (HF.out.later HBW.out)
  have HOr := Aside0.mk (HO.out.later HBW.out)
  have cf0 := HFr.out.1
  have cf1 := HFr.out.2.1
  have co0 := HOr.out.1
  by_cases hlt : i < G.length
  ·
   have hltz : (i : Int) < (G.length : Int) := by omega
   obtain ⟨ad, rfl, hc1⟩ := row_cell (Kd.C_below HR.out.2.2 HB.out) hlt
   have hk := HGE.out (G.getD i 0) (by rw [show G.getD i 0 = G[i] by simp [List.getD, hlt]]; exact List.getElem_mem _)
   have his := HIS.out i hlt
   obtain ⟨k, hke⟩ : ∃ k : Nat, G.getD i 0 = (k : Int) := ⟨(G.getD i 0).toNat, by omega⟩
   rw [hke] at hc1 hk his
   have hkn : k < n := by omega
   rw [Int.toNat_natCast, HOC.out] at his
   obtain ⟨ad2, rfl, hc2⟩ := row_cell HOr.out.2.1 (show k < order.length by have h_ := HLO.out; omega)
   have hy := HOR.out _ (HOD.out k hkn)
   obtain ⟨y, hye⟩ : ∃ y : Nat, order.getD k 0 = (y : Int) := ⟨(order.getD k 0).toNat, by omega⟩
   rw [hye] at hc2 hy his
   rw [Int.toNat_natCast] at his
   have hd := HI.out i
   have hro := ro_all ⟨y, by omega⟩ ⟨imgL order G i, hd⟩
   simp only at hro
   rw [← his] at hro
   have hkz : (k : Int) < (order.length : Int) := by have h_ := HLO.out; omega
   clear his hke hye hk
   go_wp2_with (fail)
   go_roundg (G.length - (i + 1))
   case measure => omega
   case rel => exact ⟨i + 1, _, by omega, by omega, rfl, rfl, by go_num, HB⟩
  ·
   have hltz : ¬ (i : Int) < (G.length : Int) := by omega
   obtain rfl : i = G.length := by omega
   have H1 := HOP _ (HI.out G.length)
   go_wp2_with (go_at_call 30; refine (H1 _ (by repeat (first | exact HFr.out.2.2 | apply C_drewN | apply C_drew))).mono ?_; rintro e w' ⟨rfl, hb⟩; have HB9 := below_then (B := W.heap.size) (show Below W.heap.size W _ from by repeat (first | exact HBW.out | apply below_drew | apply pw_below_drewN)) (by have h_ := HBW.out.size; (try simp at h_ ⊢); omega) hb; clear hb)
   go_ret
   exact ⟨rfl, HB9⟩

/-- The boxes of the two parameters and the result's variable. -/
def renW (w : World) (n : Int) (A : Option Addr) (cap : Nat) (gs : List (List Int)) (A' : Option Addr) (cap' : Nat) (g : List Int) : World :=
 ((w.alloc (.cells #[.int .i64 n, .slice A gs.length cap] 26)).alloc (.cells #[.slice A' g.length cap'] 27)).alloc (.cells #[.int .i64 0, .slice none 0 0] 26)
theorem renW_size (w : World) (n : Int) (A : Option Addr) (cap : Nat) (gs : List (List Int)) (A' : Option Addr) (cap' : Nat) (g : List Int) : (renW w n A cap gs A' cap' g).heap.size = w.heap.size + 1 + 1 + 1 := by simp [renW]
theorem renW_below (w : World) (n : Int) (A : Option Addr) (cap : Nat) (gs : List (List Int)) (A' : Option Addr) (cap' : Nat) (g : List Int) : Below w.heap.size w (renW w n A cap gs A' cap' g) := below_alloc (below_alloc (below_alloc (Below.refl _ _) _) _) _
theorem renW_boxes (w : World) (n : Int) (A : Option Addr) (cap : Nat) (gs : List (List Int)) (A' : Option Addr) (cap' : Nat) (g : List Int) (hC : dR.C w A gs.length gs) (hC' : Kd.C (Kd.int .i64) w A' g.length g) (hcap' : g.length ≤ cap') (W : World) (hb : Below (renW w n A cap gs A' cap' g).heap.size (renW w n A cap gs A' cap' g) W) :
  FamBox W w.heap.size n A cap gs ∧ OBox W (w.heap.size + 1) A' cap' g ∧ W.heap[w.heap.size + 1 + 1]? = some (.cells #[.int .i64 0, .slice none 0 0] 26 (0, 0)) := by
 refine ⟨((FamBox.new w n A cap gs 26 hC).later (by unfold renW at *; exact below_alloc (below_alloc (Below.refl _ _) _) _)).later hb, ⟨?_, Kd.C_below (Kd.C_below hC' (renW_below w n A cap gs A' cap' g)) hb, hcap'⟩, ?_⟩
 ·
  exact pw_cell_below hb ((blk_cell (blk_alloc (blk_at (by simp)) _) 0).trans rfl)
 ·
  exact blk_below (blk_at (by simp)) hb

set_option maxHeartbeats 4000000 in
set_option maxRecDepth 100000 in
theorem RenameHolders_no (n : Int) (A : Option Addr) (cap : Nat) (gs : List (List Int)) (A' : Option Addr) (cap' : Nat) (g : List Int) (w : World) (hC : dR.C w A gs.length gs) (hcap : gs.length ≤ cap) (hC' : Kd.C (Kd.int .i64) w A' g.length g) (hcap' : g.length ≤ cap') (hv : ¬ ValidF n gs) :
  Calls Tryz.prog 12 #[.agg #[.int .i64 n, .slice A gs.length cap], .slice A' g.length cap'] w (FamRes w 0 [] 1) := by
 have hu := Tryz.underlying26
 have HV := fun W h => valid_calls n A cap gs W h hcap
 rw [decide_eq_false hv] at HV
 have HBX := Aside0.mk (renW_boxes w n A cap gs A' cap' g hC hC' hcap')
 have HWB := Aside0.mk (renW_below w n A cap gs A' cap' g)
 have HWS := Aside0.mk (renW_size w n A cap gs A' cap' g)
 have HCW := Aside0.mk (C_below hC HWB.out)
 have HGW := Aside0.mk (Kd.C_below hC' HWB.out)
 clear hC hC' hv
 all_goals (
  go_enter Tryz.func12, Tryz.ntmps12
  go_wp2_with (fail)
  rw [show ((w.alloc (.cells #[.int .i64 n, .slice A gs.length cap] 26)).alloc (.cells #[.slice A' g.length cap'] 27)).alloc (.cells #[.int .i64 0, .slice none 0 0] 26) = renW w n A cap gs A' cap' g from rfl]
  go_wp2_with (go_at_call 18; refine (HV _ (C_below HCW.out ?_)).mono ?_; (repeat (first | exact Below.refl _ _ | apply below_drew | apply pw_below_drewN)); rintro e w1 ⟨rfl, hb1⟩; have HB1 := Aside0.mk (below_then (B := (renW w n A cap gs A' cap' g).heap.size) (show Below (renW w n A cap gs A' cap' g).heap.size (renW w n A cap gs A' cap' g) _ from by repeat (first | exact Below.refl _ _ | apply below_drew | apply pw_below_drewN)) (by simp) hb1); clear hb1; have HX := Aside0.mk (HBX.out w1 HB1.out); have cf0 := HX.out.1.1; have cf1 := HX.out.1.2.1; have cg0 := HX.out.2.1.1; have z0 : w1.cell? ⟨w.heap.size + 1 + 1, 0, none⟩ = some (.int .i64 0) := (blk_cell HX.out.2.2 0).trans rfl; have z1 : w1.cell? ⟨w.heap.size + 1 + 1, 1, none⟩ = some (.slice none 0 0) := (blk_cell HX.out.2.2 1).trans rfl; have f0 := blk_frozen HX.out.2.2 0; have f1 := blk_frozen HX.out.2.2 1)
  have HZ := Aside0.mk HX.out.2.2
  have p0 := fun a b => put0 (a := a) (b := b) HZ.out
  have p1 := fun a b => put1 (a := a) (b := b) HZ.out
  have h1 : Below w.heap.size w w1 := below_then HWB.out (by have := HWS.out; omega) HB1.out
  refine bodyPost_ret (v := .tuple #[.agg #[.int .i64 0, .slice none 0 0], .int .i64 1]) (by simp [results, Tryz.results12, go_sem, p0, p1]) rfl ⟨_, rfl, S_nil _ _ _ _ _, ?_⟩
  exact below_set (below_set h1 (by omega)) (by omega))

set_option maxHeartbeats 4000000 in
set_option maxRecDepth 100000 in
theorem RenameHolders_far (n : Nat) (A : Option Addr) (cap : Nat) (gs : List (List Int)) (A' : Option Addr) (cap' : Nat) (g : List Int) (w : World) (hC : dR.C w A gs.length gs) (hcap : gs.length ≤ cap) (hC' : Kd.C (Kd.int .i64) w A' g.length g) (hcap' : g.length ≤ cap') (hv : ValidF (n : Int) gs) (hord : ¬ (g.length = n ∧ isGroupN n (ascL g))) :
  Calls Tryz.prog 12 #[.agg #[.int .i64 (n : Int), .slice A gs.length cap], .slice A' g.length cap'] w (FamRes w 0 [] 2) := by
 have hu := Tryz.underlying26
 have HV := fun W h => valid_calls (n : Int) A cap gs W h hcap
 rw [decide_eq_true hv] at HV
 have hn := hv.1
 have HOR := fun W h => isOrder_calls n (by omega) (by omega) A' cap' g W h hcap'
 rw [decide_eq_false hord] at HOR
 have HBX := Aside0.mk (renW_boxes w (n : Int) A cap gs A' cap' g hC hC' hcap')
 have HWB := Aside0.mk (renW_below w (n : Int) A cap gs A' cap' g)
 have HWS := Aside0.mk (renW_size w (n : Int) A cap gs A' cap' g)
 have HCW := Aside0.mk (C_below hC HWB.out)
 have HGW := Aside0.mk (Kd.C_below hC' HWB.out)
 clear hC hC' hv hord hn
 all_goals (
  go_enter Tryz.func12, Tryz.ntmps12
  go_wp2_with (fail)
  rw [show ((w.alloc (.cells #[.int .i64 (n : Int), .slice A gs.length cap] 26)).alloc (.cells #[.slice A' g.length cap'] 27)).alloc (.cells #[.int .i64 0, .slice none 0 0] 26) = renW w (n : Int) A cap gs A' cap' g from rfl]
  go_wp2_with (go_at_call 18; refine (HV _ (C_below HCW.out ?_)).mono ?_; (repeat (first | exact Below.refl _ _ | apply below_drew | apply pw_below_drewN)); rintro e w1 ⟨rfl, hb1⟩; have HB1 := Aside0.mk (below_then (B := (renW w (n : Int) A cap gs A' cap' g).heap.size) (show Below (renW w (n : Int) A cap gs A' cap' g).heap.size (renW w (n : Int) A cap gs A' cap' g) _ from by repeat (first | exact Below.refl _ _ | apply below_drew | apply pw_below_drewN)) (by simp) hb1); clear hb1; have HX1 := Aside0.mk (HBX.out w1 HB1.out); have cf0 := HX1.out.1.1; have cf1 := HX1.out.1.2.1; have cg0 := HX1.out.2.1.1)
  clear cf0 cf1 cg0
  (refine (HOR _ (Kd.C_below HX1.out.2.1.2.1 ?_)).mono ?_; (repeat (first | exact Below.refl _ _ | apply below_drew | apply pw_below_drewN)); rintro e w2 ⟨rfl, hb2⟩; have HB2 := Aside0.mk (below_then (B := (renW w (n : Int) A cap gs A' cap' g).heap.size) (show Below (renW w (n : Int) A cap gs A' cap' g).heap.size (renW w (n : Int) A cap gs A' cap' g) _ from by repeat (first | exact HB1.out | apply below_drew | apply pw_below_drewN)) (by have h_ := HB1.out.size; (try simp at h_ ⊢); omega) hb2); clear hb2; have HX := Aside0.mk (HBX.out w2 HB2.out); have cf0 := HX.out.1.1; have cf1 := HX.out.1.2.1; have cg0 := HX.out.2.1.1; have z0 : w2.cell? ⟨w.heap.size + 1 + 1, 0, none⟩ = some (.int .i64 0) := (blk_cell HX.out.2.2 0).trans rfl; have z1 : w2.cell? ⟨w.heap.size + 1 + 1, 1, none⟩ = some (.slice none 0 0) := (blk_cell HX.out.2.2 1).trans rfl; have f0 := blk_frozen HX.out.2.2 0; have f1 := blk_frozen HX.out.2.2 1)
  go_wp2_with (fail)
  have HZ := Aside0.mk HX.out.2.2
  have p0 := fun a b => put0 (a := a) (b := b) HZ.out
  have p1 := fun a b => put1 (a := a) (b := b) HZ.out
  have h1 : Below w.heap.size w w2 := below_then HWB.out (by have := HWS.out; omega) HB2.out
  refine bodyPost_ret (v := .tuple #[.agg #[.int .i64 0, .slice none 0 0], .int .i64 2]) (by simp [results, Tryz.results12, go_sem, p0, p1]) rfl ⟨_, rfl, S_nil _ _ _ _ _, ?_⟩
  exact below_set (below_set h1 (by omega)) (by omega))

set_option maxHeartbeats 4000000 in
set_option maxRecDepth 100000 in
theorem RenameHolders_yes (n : Nat) (A : Option Addr) (cap : Nat) (gs : List (List Int)) (A' : Option Addr) (cap' : Nat) (g : List Int) (w : World) (hC : dR.C w A gs.length gs) (hcap : gs.length ≤ cap) (hC' : Kd.C (Kd.int .i64) w A' g.length g) (hcap' : g.length ≤ cap') (hv : ValidF (n : Int) gs) (hord : g.length = n ∧ isGroupN n (ascL g)) :
  Calls Tryz.prog 12 #[.agg #[.int .i64 (n : Int), .slice A gs.length cap], .slice A' g.length cap'] w (FamRes w (n : Int) (famN n fun c => openN gs (imgB n (ordN g) c)) 0) := by
 have hu := Tryz.underlying26
 have HV := fun W h => valid_calls (n : Int) A cap gs W h hcap
 rw [decide_eq_true hv] at HV
 have hn := hv.1
 have HOR := fun W h => isOrder_calls n (by omega) (by omega) A' cap' g W h hcap'
 rw [decide_eq_true hord] at HOR
 have eg : ∀ args w, (callFunc 39 args).run Tryz.prog w = .ok (.enter 39 args) w := enters_of Tryz.func39 (by kernel_rfl) rfl
 have hor7 : ∀ x ∈ g, 0 ≤ x ∧ x < 7 := fun x hx => by
  have := hord.2.1 x ((List.mergeSort_perm g _).mem_iff.2 hx)
  omega
 have HF := fun W (hF : FamBox W w.heap.size (n : Int) A cap gs) (hO : OBox W (w.heap.size + 1) A' cap' g) => familyOf_calls n (by omega) 39 #[] #[.pointer (some ⟨w.heap.size + 1, 0, none⟩), .pointer (some ⟨w.heap.size, 0, none⟩)] eg (fun c => openN gs (imgB n (ordN g) c)) W
  (fun W' c hbw hc => ren1_calls n (by omega) A cap gs hcap (smalls_of hv) g hord.1 hor7 A' cap' (w.heap.size + 1) w.heap.size W' (hF.later hbw) (hO.later hbw) c hc)
 generalize hFF : (famN n fun c => openN gs (imgB n (ordN g) c)) = F at *
 have HFF := Aside0.mk hFF
 clear hFF hor7
 have HBX := Aside0.mk (renW_boxes w (n : Int) A cap gs A' cap' g hC hC' hcap')
 have HWB := Aside0.mk (renW_below w (n : Int) A cap gs A' cap' g)
 have HWS := Aside0.mk (renW_size w (n : Int) A cap gs A' cap' g)
 have HCW := Aside0.mk (C_below hC HWB.out)
 have HGW := Aside0.mk (Kd.C_below hC' HWB.out)
 clear hC hC' hv hord hn
 all_goals (
  go_enter Tryz.func12, Tryz.ntmps12
  go_wp2_with (fail)
  rw [show ((w.alloc (.cells #[.int .i64 (n : Int), .slice A gs.length cap] 26)).alloc (.cells #[.slice A' g.length cap'] 27)).alloc (.cells #[.int .i64 0, .slice none 0 0] 26) = renW w (n : Int) A cap gs A' cap' g from rfl]
  go_wp2_with (go_at_call 18; refine (HV _ (C_below HCW.out ?_)).mono ?_; (repeat (first | exact Below.refl _ _ | apply below_drew | apply pw_below_drewN)); rintro e w1 ⟨rfl, hb1⟩; have HB1 := Aside0.mk (below_then (B := (renW w (n : Int) A cap gs A' cap' g).heap.size) (show Below (renW w (n : Int) A cap gs A' cap' g).heap.size (renW w (n : Int) A cap gs A' cap' g) _ from by repeat (first | exact Below.refl _ _ | apply below_drew | apply pw_below_drewN)) (by simp) hb1); clear hb1; have HX1 := Aside0.mk (HBX.out w1 HB1.out); have cf0 := HX1.out.1.1; have cf1 := HX1.out.1.2.1; have cg0 := HX1.out.2.1.1)
  clear cf0 cf1 cg0
  (refine (HOR _ (Kd.C_below HX1.out.2.1.2.1 ?_)).mono ?_; (repeat (first | exact Below.refl _ _ | apply below_drew | apply pw_below_drewN)); rintro e w2 ⟨rfl, hb2⟩; have HB2 := Aside0.mk (below_then (B := (renW w (n : Int) A cap gs A' cap' g).heap.size) (show Below (renW w (n : Int) A cap gs A' cap' g).heap.size (renW w (n : Int) A cap gs A' cap' g) _ from by repeat (first | exact HB1.out | apply below_drew | apply pw_below_drewN)) (by have h_ := HB1.out.size; (try simp at h_ ⊢); omega) hb2); clear hb2; have HX := Aside0.mk (HBX.out w2 HB2.out); have cf0 := HX.out.1.1; have cf1 := HX.out.1.2.1; have cg0 := HX.out.2.1.1)
  go_wp2_with (fail)
  (refine (HF _ (HX.out.1.later ?_) (HX.out.2.1.later ?_)).mono ?_; (repeat (first | exact Below.refl _ _ | apply below_drew | apply pw_below_drewN)); clear HF cf0 cf1 cg0; rintro e w6 ⟨v6, rfl, hs6, hb6⟩; obtain ⟨A6, c6, rfl⟩ := S_slice hs6; have HS6 := Aside0.mk hs6; have HB6 := Aside0.mk (below_then (B := (renW w (n : Int) A cap gs A' cap' g).heap.size) (show Below (renW w (n : Int) A cap gs A' cap' g).heap.size (renW w (n : Int) A cap gs A' cap' g) _ from by repeat (first | exact HB2.out | apply below_drew | apply pw_below_drewN)) (by have h_ := HB2.out.size; (try simp at h_ ⊢); omega) hb6); clear hs6 hb6)
  have HZ := Aside0.mk (HBX.out _ HB6.out).2.2
  have z0 : w6.cell? ⟨w.heap.size + 1 + 1, 0, none⟩ = some (.int .i64 0) := (blk_cell HZ.out 0).trans rfl
  have z1 : w6.cell? ⟨w.heap.size + 1 + 1, 1, none⟩ = some (.slice none 0 0) := (blk_cell HZ.out 1).trans rfl
  have f0 := blk_frozen HZ.out 0
  have f1 := blk_frozen HZ.out 1
  go_wp2_with (fail)
  have p0 := fun a b => put0 (a := a) (b := b) HZ.out
  have p1 := fun a b => put1 (a := a) (b := b) HZ.out
  have hW2 := below_then HWB.out HWB.out.size HB2.out
  refine bodyPost_ret (v := .tuple #[.agg #[.int .i64 (n : Int), .slice A6 F.length c6], .int .i64 0]) (by simp [results, Tryz.results12, go_sem, p0, p1]) rfl ⟨_, rfl, S_put HZ.out (S_lower HS6.out hW2.size), ?_⟩
  exact below_set (below_set (below_then HWB.out HWB.out.size HB6.out) (by omega)) (by omega))

/-- What RenameHolders answers. -/
def RenRes (n : Int) (gs : List (List Int)) (g : List Int) : Int × List (List Int) × Int :=
 if ValidF n gs then (if Order.OrderOk n g then (n, famN n.toNat (fun c => openN gs (imgB n.toNat (ordN g) c)), 0) else (0, [], 2)) else (0, [], 1)
theorem RenameHolders_calls (n : Int) (A : Option Addr) (cap : Nat) (gs : List (List Int)) (A' : Option Addr) (cap' : Nat) (g : List Int) (w : World) (hC : dR.C w A gs.length gs) (hcap : gs.length ≤ cap) (hC' : Kd.C (Kd.int .i64) w A' g.length g) (hcap' : g.length ≤ cap') :
  Calls Tryz.prog 12 #[.agg #[.int .i64 n, .slice A gs.length cap], .slice A' g.length cap'] w (FamRes w (RenRes n gs g).1 (RenRes n gs g).2.1 (RenRes n gs g).2.2) := by
 unfold RenRes
 by_cases hv : ValidF n gs
 ·
  rw [if_pos hv]
  have hr := hv.1
  obtain ⟨m, rfl⟩ : ∃ m : Nat, n = (m : Int) := ⟨n.toNat, by omega⟩
  have hi := OrderIff.order_iff (n := m) (by omega) g
  by_cases ho : Order.OrderOk (m : Int) g
  ·
   rw [if_pos ho, Int.toNat_natCast]
   exact RenameHolders_yes m A cap gs A' cap' g w hC hcap hC' hcap' hv (hi.2 ho)
  ·
   rw [if_neg ho]
   exact RenameHolders_far m A cap gs A' cap' g w hC hcap hC' hcap' hv (fun h => ho (hi.1 h))
 ·
  rw [if_neg hv]
  exact RenameHolders_no n A cap gs A' cap' g w hC hcap hC' hcap' hv
end Go.Proofs.YtgemfighmnnmeaaGreat.RenF
