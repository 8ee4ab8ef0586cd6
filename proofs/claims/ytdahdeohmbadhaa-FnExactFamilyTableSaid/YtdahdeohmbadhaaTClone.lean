/- Contract of slices.Clone at numbers, by the kit's shelf. -/
import Derived.Test.YtdahdeohmbadhaaShelf
import Derived.Test.YtdahdeohmbadhaaWWords
import Derived.Test.YtdahdeohmbadhaaWMore
namespace Go.Proofs.Ytdahdeohmbadhaa.TClone
open Go.RowKit Go.Lib Go.Proofs Go.Proofs.YtdahdeohmbadhaaW.PrintWords Go.Proofs.YtdahdeohmbadhaaW.PrintWords.Kd
set_option linter.unusedVariables false
theorem R_nums {w : World} {base : Nat} {v : Value} {l : List Int} (h : w.ownsRow base 2 1 v l.length (l.map (Value.int .i64))) : Kd.R (Kd.int .i64) 2 w base (fun _ => True) v l := by
  refine ⟨fun _ _ => trivial, l.map (Value.int .i64), h, ⟨by simp [Kd.int, Kd.scalar], fun j p hj => ?_⟩⟩
  show ((l.map (Value.int .i64)).drop (j * 1)).take 1 = [.int .i64 p]
  obtain ⟨hlt, rfl⟩ := List.getElem?_eq_some_iff.1 hj
  rw [Nat.mul_one, List.drop_eq_getElem_cons (by simpa using hlt)]
  simp
def CloneF (l : List Int) : Option (List Int) := if l.length ≤ 17592186044416 then some l else none
theorem clone_calls (A : Option Addr) (c : Nat) (l : List Int) (r : List Int) (w : World) (hC : Kd.C (Kd.int .i64) w A l.length l) (hc : l.length ≤ c) (h : CloneF l = some r) :
    Calls Try.prog 139 #[.slice A l.length c] w fun e w' => ∃ v, e = .returned v ∧ Kd.R (Kd.int .i64) 2 w' w.heap.size (fun _ => True) v r ∧ Below w.heap.size w w' := by
  unfold CloneF at h
  split at h
  · rename_i hl
    obtain rfl : l = r := by simpa using h
    by_cases hn : l = []
    · subst hn
      cases A with
      | none => exact (Try.slices_Clone_int_nil 0 c w).mono fun e w' ⟨he, hw⟩ => ⟨_, he, Kd.R_nil _ _ _ _ _, by rw [hw]; exact Below.refl _ _⟩
      | some a => exact (Try.slices_Clone_int_zero a c w).mono fun e w' ⟨v, he, ho, _, hb⟩ => ⟨v, he, R_nums ho, hb⟩
    · have hpos : 0 < l.length := List.length_pos_iff.2 hn
      obtain ⟨ad, rfl, hcell⟩ := hC.2.2 hpos
      obtain ⟨b, off, sub⟩ := ad
      have hcells : ∀ j, j < l.length → w.cell? ((⟨b, off, sub⟩ : Addr).add j) = some (.int .i64 (l.getD j 0)) := fun j hj => by
        obtain ⟨cs, hcl, hK, hu⟩ := hcell j l[j] (List.getElem?_eq_getElem hj)
        have hK' : cs = [.int .i64 l[j]] := hK
        subst hK'
        have := hu 0 _ rfl
        rw [show (Kd.int .i64).sz = 1 from rfl, Nat.mul_one, Nat.add_zero] at this
        rw [this]
        simp [List.getD, hj]
      have hsub : sub = none := by
        have h0 := hcells 0 hpos
        cases sub with
        | none => rfl
        | some s =>
          exfalso
          simp [World.cell?, Addr.add] at h0
          split at h0 <;> cases h0
      subst hsub
      have hadd : ∀ j, (⟨b, off, none⟩ : Addr).add j = ⟨b, off + j, none⟩ := fun j => by unfold Addr.add; split <;> simp_all
      refine (Try.slices_Clone_int b off l.length c l w (Nat.le_refl _) (by omega) (fun j hj => by rw [← hadd]; exact hcells j hj)).mono fun e w' ⟨v, he, ho, _, hb⟩ => ⟨v, he, R_nums (by rwa [List.take_length] at ho), hb⟩
  · cases h
end Go.Proofs.Ytdahdeohmbadhaa.TClone
