/- What the printed functions see of opens. No program in sight. -/
import Derived.Test.YtmanloolbpmgiaaGx6
import Derived.Test.YtmanloolbpmgiaaTMay0
import Derived.Test.YtmanloolbpmgiaaTArg
namespace Go.Proofs.Ytmanloolbpmgiaa.TMay
open Go.Proofs.Ytmanloolbpmgiaa.TArg Go.RowKit Go.Proofs.YtmanloolbpmgiaaW.PrintWords Go.Proofs.YtmanloolbpmgiaaW.PrintMore Go.Proofs.Ytmanloolbpmgiaa.G Go.Proofs.Ytmanloolbpmgiaa.Fam Go.Proofs.Ytmanloolbpmgiaa.Loops Go.Proofs.Ytmanloolbpmgiaa.Bits Go.Proofs.Ytmanloolbpmgiaa.Valid Go.Proofs.Ytmanloolbpmgiaa.FamLaw Go.Proofs.Ytmanloolbpmgiaa.Ops Go.Proofs.Ytmanloolbpmgiaa.Opens Go.Proofs.Ytmanloolbpmgiaa.Crowds Go.Proofs.Ytmanloolbpmgiaa.From Go.Proofs.Ytmanloolbpmgiaa.Ref Go.Proofs.Ytmanloolbpmgiaa.Some

theorem opens_is {gs : List (List Int)} (hg : Smalls gs) {c : Nat} (hc : c < 128) (m : Int) : impl_Family_opens.f m gs (c : Int) = some (openN gs c) := by
  show opensF gs (c : Int) = _
  unfold opensF
  rw [if_pos ⟨hg, by omega, by omega⟩]
  rfl
theorem bytes_of {l : List Int} (h : ∀ x ∈ l, (Lit.int .u8 x).wf = true) : Bytes l := fun x hx => byte_of (h x hx)

end Go.Proofs.Ytmanloolbpmgiaa.TMay
