/- FnExactBothFamilies, by the contracts of the program's and the reference's BothFamilies. -/
import Derived.Test.YtmeaffkgnmgmeaaExBothFamilies
import Derived.Test.YtmeaffkgnmgmeaaSPair
import Derived.Test.YtmeaffkgnmgmeaaTotal
namespace Go.Proofs.Ytmeaffkgnmgmeaa.SaidBothFamilies
open Go.RowKit Go.Proofs.YtmeaffkgnmgmeaaW.PrintWords Go.Proofs.YtmeaffkgnmgmeaaW.PrintWords.Kd Go.Proofs.Ytmeaffkgnmgmeaa.Fam Go.Proofs.Ytmeaffkgnmgmeaa.Valid Go.Proofs.Ytmeaffkgnmgmeaa.Ops Go.Proofs.Ytmeaffkgnmgmeaa.Lattice Go.Proofs.Ytmeaffkgnmgmeaa.SPair Go.Proofs.Ytmeaffkgnmgmeaa.Mark Go.Proofs.Ytmeaffkgnmgmeaa.Total
theorem exact (n0 : Int) (A0 : Option Addr) (c0 : Nat) (gs0 : List (List Int)) (n1 : Int) (A1 : Option Addr) (c1 : Nat) (gs1 : List (List Int)) (w : World) (hC0 : dR.C w A0 gs0.length gs0) (hc0 : gs0.length ≤ c0) (hC1 : dR.C w A1 gs1.length gs1) (hc1 : gs1.length ≤ c1) :
    Calls Try.prog 13 #[.agg #[.int .i64 n0, .slice A0 gs0.length c0], .agg #[.int .i64 n1, .slice A1 gs1.length c1]] w fun e w' => e = .returned (.bool true) ∧ Below w.heap.size w w' :=
  ExBothFamilies.walk n0 A0 c0 gs0 n1 A1 c1 gs1 w hC0 hc0 hC1 hc1 (BothFamiliesF n0 gs0 n1 gs1).1 (BothFamiliesF n0 gs0 n1 gs1).2.1 (BothFamiliesF n0 gs0 n1 gs1).2.2 (small_total (by
    unfold BothFamiliesF
    split
    · rename_i hv
      have h7 : n0.toNat ≤ 7 := by
        unfold twoC at hv
        split at hv
        · rename_i h; have := h.1.1; omega
        · cases hv
      exact total_famN h7 _
    · exact Nat.zero_le _)) (fun W A0 c0 A1 c1 hC0 hc0 hC1 hc1 => by
        have := SBothFamilies_calls n0 A0 c0 gs0 n1 A1 c1 gs1 W hC0 hC1
        rw [both_same]
        exact this) (fun W A0 c0 A1 c1 hC0 hc0 hC1 hc1 => BothFamiliesF_calls n0 A0 c0 gs0 n1 A1 c1 gs1 _ _ _ W hC0 hc0 hC1 hc1 rfl)
end Go.Proofs.Ytmeaffkgnmgmeaa.SaidBothFamilies
