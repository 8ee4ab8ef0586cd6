/- How many numbers families have. No program in sight. -/
import Derived.Test.YtmanloolbpmgiaaMark
import Derived.Test.YtmanloolbpmgiaaCrowds
namespace Go.Proofs.Ytmanloolbpmgiaa.Total
open Go.Proofs.Ytmanloolbpmgiaa.Fam Go.Proofs.Ytmanloolbpmgiaa.Valid Go.Proofs.Ytmanloolbpmgiaa.Crowds Go.Proofs.Ytmanloolbpmgiaa.Mark
theorem total_short {m : Nat} : ∀ {gs : List (List Int)}, (∀ g ∈ gs, g.length ≤ m) → total gs ≤ m * gs.length
  | [], _ => by simp [total]
  | g :: gs, h => by
    have h1 := h g List.mem_cons_self
    have h2 := total_short (gs := gs) (fun x hx => h x (List.mem_cons_of_mem _ hx))
    simp only [total, List.length_cons, Nat.mul_add, Nat.mul_one]
    omega
theorem groupN_len (c : Nat) : (groupN c).length ≤ 7 := by
  unfold groupN
  rw [List.length_map]
  have := List.length_filter_le c.testBit (List.range 7)
  simpa using this
theorem total_crowdsN {n : Nat} (hn : n ≤ 7) (p : Nat → Bool) : total (crowdsN n p) ≤ 896 := by
  have h1 : ∀ g ∈ crowdsN n p, g.length ≤ 7 := fun g hg => by
    obtain ⟨c, _, _, rfl⟩ := mem_crowdsN.1 hg
    exact groupN_len c
  have h2 : (crowdsN n p).length ≤ 128 := by
    unfold crowdsN
    rw [List.length_mergeSort]
    exact crowds_len n _ hn
  have := total_short h1
  omega
theorem total_famN {n : Nat} (hn : n ≤ 7) (p : Nat → Bool) : total (famN n p) ≤ 896 := total_crowdsN hn _
theorem small_total {t : Nat} (h : t ≤ 896) : 1 + (t : Int) < 9223372036854775807 := by omega
end Go.Proofs.Ytmanloolbpmgiaa.Total
