/- Contract of the program's without: a list without one of its elements. -/
import Derived.Test.YtdahdeohmbadhaaTClone
import Derived.Test.YtdahdeohmbadhaaTSort
import Derived.Test.YtdahdeohmbadhaaWLast
import Derived.BigQuiet
namespace Go.Proofs.Ytdahdeohmbadhaa.TWithout
open Go.RowKit Go.Lib Go.Sort Go.Proofs Go.Proofs.YtdahdeohmbadhaaW.PrintWords Go.Proofs.YtdahdeohmbadhaaW.PrintWords.Kd Go.Proofs.YtdahdeohmbadhaaW.PrintLast Go.Proofs.YtdahdeohmbadhaaW.PrintMore Go.Proofs.Ytdahdeohmbadhaa.TClone Go.Proofs.Ytdahdeohmbadhaa.Sorting
set_option linter.unusedVariables false
set_option linter.unusedSimpArgs false
def WithoutF (l : List Int) (h : Int) : Option (List Int) := if 0 ≤ h ∧ h < (l.length : Int) ∧ l.length ≤ 1048576 then some (l.take h.toNat ++ l.drop (h.toNat + 1)) else none
set_option maxHeartbeats 4000000 in
set_option maxRecDepth 100000 in
theorem without_calls (A : Option Addr) (c : Nat) (l : List Int) (h : Int) (r : List Int) (w : World) (hC : Kd.C (Kd.int .i64) w A l.length l) (hc : l.length ≤ c) (hf : WithoutF l h = some r) :
    Calls Try.prog 142 #[.slice A l.length c, .int .i64 h] w fun e w' => ∃ v, e = .returned v ∧ Kd.R (Kd.int .i64) 2 w' w.heap.size (fun _ => True) v r ∧ Below w.heap.size w w' := by
  unfold WithoutF at hf
  split at hf
  · rename_i hh
    obtain ⟨h0, h1, hl⟩ := hh
    obtain ⟨m, rfl⟩ : ∃ m : Nat, h = (m : Int) := ⟨h.toNat, by omega⟩
    rw [Int.toNat_natCast] at hf
    have hr := Option.some.inj hf
    have hm : m < l.length := by omega
    have HCL := clone_calls A c l l w hC hc (if_pos (by omega))
    have HM := Aside0.mk hm
    have hb7 : IntKind.i64.wrap ((m : Int) + 1) = ((m : Int) + 1) := IntWalk.i64_in _ (by omega)
    have HRR := Aside0.mk hr
    clear hf hC hc hm h0 h1 hr
    go_enter Try.func142, Try.ntmps142
    go_wp2_with (fail)
    (refine HCL.mono ?_; clear HCL; rintro e w1 ⟨v, rfl, hr, hb⟩)
    have HR := Aside0.mk hr
    have HB := Aside0.mk hb
    clear hr hb
    go_wp2_with (fail)
    have hcall := Try.slices_Delete_int
    obtain ⟨hok, inner, ⟨hil, ho⟩, hrep⟩ := HR.out
    have hinner : inner = l.map (Value.int .i64) := by
      apply List.ext_getElem?
      intro j
      by_cases hj : j < l.length
      · have h2 := hrep.2 j l[j] (List.getElem?_eq_getElem hj)
        have h3 : (inner.drop (j * 1)).take 1 = [.int .i64 l[j]] := h2
        rw [Nat.mul_one] at h3
        have h4 : inner[j]? = some (.int .i64 l[j]) := by
          have : ((inner.drop j).take 1)[0]? = some (.int .i64 l[j]) := by rw [h3]; rfl
          rw [List.getElem?_take_of_lt (by decide), List.getElem?_drop, Nat.add_zero] at this
          exact this
        rw [h4, List.getElem?_map, List.getElem?_eq_getElem hj]
        rfl
      · have hz : (Kd.int .i64).sz = 1 := rfl
        rw [hz, Nat.mul_one] at hil
        rw [List.getElem?_eq_none (by omega), List.getElem?_eq_none (by rw [List.length_map]; omega)]
    have hm := HM.out
    rcases ho with ⟨_, h0⟩ | ⟨gb, cap, cur, rfl, hbase, hcur, hlc, hcm, hcs, htake⟩
    · omega
    rw [show (Kd.int .i64).sz = 1 from rfl, Nat.mul_one] at hcs htake
    rw [hinner] at htake
    refine (Try.slices_Delete_int gb 0 cap m (m + 1) l w1 (holds_of_block hcur htake) hlc (by simpa [maxLen] using hcm) (Nat.le_succ m) hm).mono ?_
    rintro e w2 ⟨rfl, q, rfl⟩
    rw [show m + 1 - m = 1 by omega]
    have hr := HRR.out
    rw [hr]
    have hrl : r.length = l.length - 1 := by rw [← hr, List.length_append, List.length_take, List.length_drop]; omega
    rw [show List.replicate 1 (0 : Int) = [0] from rfl]
    have hw : putRow (Value.int .i64) (Sort.ahead w1 q) gb 0 (r ++ [0]).toArray = sortWorld (Value.int .i64) w1 gb 0 q (r ++ [0]).toArray #[] := by unfold sortWorld; rw [grow_empty]
    rw [hw]
    go_wp2_with (fail)
    go_ret
    have hcs' : cur.size = cap := by omega
    have ht2 := take_putCells (enc := Value.int .i64) cur (r ++ [0]) (by rw [List.length_append, hrl]; simp; omega)
    have hs1 : (Kd.int .i64).sz = 1 := rfl
    refine ⟨_, by rw [← hrl]; rfl, ⟨fun _ _ => trivial, r.map (Value.int .i64), ⟨by rw [List.length_map, hs1, Nat.mul_one], .inr ⟨gb, cap, _, rfl, hbase, heap_sorted (enc := Value.int .i64) _ hcur, by omega, hcm, by rw [hs1, Nat.mul_one]; simp [putCells]; exact hcs', ?_⟩⟩, ⟨by rw [List.length_map, hs1, Nat.mul_one], fun j p hj => ?_⟩⟩, ?_⟩
    · rw [hs1, Nat.mul_one]
      have h5 := congrArg (List.take r.length) ht2
      rw [List.take_take, List.length_append, Nat.min_eq_left (by simp)] at h5
      rw [h5, List.map_append, List.take_left' (by rw [List.length_map])]
    · show ((r.map (Value.int .i64)).drop (j * 1)).take 1 = [.int .i64 p]
      obtain ⟨hlt, rfl⟩ := List.getElem?_eq_some_iff.1 hj
      rw [Nat.mul_one, List.drop_eq_getElem_cons (by simpa using hlt)]
      simp
    · have hg := grownBy_sorted (enc := Value.int .i64) (w := w1) (g := gb) (n := q) (os := #[]) (r ++ [0]).toArray
      exact ⟨hg.os.trans HB.out.os, hg.tape.trans HB.out.tape, hg.output.trans HB.out.output, Nat.le_trans HB.out.size hg.size, fun k hk => by
        have h1 := HB.out.size
        rw [hg.block k (by omega) (fun e => by injection e with e; omega)]
        exact HB.out.block k hk⟩
  · cases hf
end Go.Proofs.Ytdahdeohmbadhaa.TWithout
