/- FnExactOuterFamily, by the contracts of the program's and the reference's OuterFamily. -/
import Derived.Test.YtmanloolbpmgiaaExOuterFamily
import Derived.Test.YtmanloolbpmgiaaOut
import Derived.Test.YtmanloolbpmgiaaTotal
namespace Go.Proofs.Ytmanloolbpmgiaa.SaidOuterFamily
open Go.RowKit Go.Proofs.YtmanloolbpmgiaaW.PrintWords Go.Proofs.YtmanloolbpmgiaaW.PrintWords.Kd Go.Proofs.Ytmanloolbpmgiaa.Fam Go.Proofs.Ytmanloolbpmgiaa.Valid Go.Proofs.Ytmanloolbpmgiaa.Ops Go.Proofs.Ytmanloolbpmgiaa.ModF Go.Proofs.Ytmanloolbpmgiaa.Sub Go.Proofs.Ytmanloolbpmgiaa.SubM Go.Proofs.Ytmanloolbpmgiaa.SSub Go.Proofs.Ytmanloolbpmgiaa.SSubM Go.Proofs.Ytmanloolbpmgiaa.Out Go.Proofs.Ytmanloolbpmgiaa.OutF Go.Proofs.Ytmanloolbpmgiaa.SOut Go.Proofs.Ytmanloolbpmgiaa.Mark Go.Proofs.Ytmanloolbpmgiaa.Total
theorem exact (n0 : Int) (A0 : Option Addr) (c0 : Nat) (gs0 : List (List Int)) (A1 : Option Addr) (c1 : Nat) (gs1 : List Int) (w : World) (hC0 : dR.C w A0 gs0.length gs0) (hc0 : gs0.length ≤ c0) (hC1 : Kd.C (Kd.int .i64) w A1 gs1.length gs1) (hc1 : gs1.length ≤ c1) :
    Calls Try.prog 9 #[.agg #[.int .i64 n0, .slice A0 gs0.length c0], .slice A1 gs1.length c1] w fun e w' => e = .returned (.bool true) ∧ Below w.heap.size w w' :=
  ExOuterFamily.walk n0 A0 c0 gs0 A1 c1 gs1 w hC0 hc0 hC1 hc1 (OutRes n0 gs0 gs1).1 (OutRes n0 gs0 gs1).2.1 (OutRes n0 gs0 gs1).2.2 (small_total (by
    unfold OutRes
    rcases modCode_cases n0 gs0 gs1 with ⟨h0, hv, hg, hm⟩ | hc
    · rw [if_pos h0]
      have h7 : n0.toNat ≤ 7 := by have := hv.1; omega
      exact total_famN (Nat.le_trans (rest_len h7 hg (modB_pos hm)) h7) _
    · rw [if_neg (by omega)]
      exact Nat.zero_le _)) (fun W A c A' c' hC hc hC' hc' => SOuterFamily_calls n0 A c gs0 A' c' gs1 W hC hc hC' hc') (fun W A c A' c' hC hc hC' hc' => OuterFamily_calls n0 A c gs0 A' c' gs1 W hC hc hC' hc')
end Go.Proofs.Ytmanloolbpmgiaa.SaidOuterFamily
