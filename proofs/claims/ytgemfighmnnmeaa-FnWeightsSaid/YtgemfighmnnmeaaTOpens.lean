/- What the printed functions see of opens. No program in sight. -/
import Derived.Test.YtgemfighmnnmeaaGx6
import Derived.Test.YtgemfighmnnmeaaTMay0
import Derived.Test.YtgemfighmnnmeaaTArg
namespace Go.Proofs.Ytgemfighmnnmeaa.TMay
open Go.Proofs.Ytgemfighmnnmeaa.TArg Go.RowKit Go.Proofs.YtgemfighmnnmeaaW.PrintWords Go.Proofs.YtgemfighmnnmeaaW.PrintMore Go.Proofs.Ytgemfighmnnmeaa.G Go.Proofs.Ytgemfighmnnmeaa.Fam Go.Proofs.Ytgemfighmnnmeaa.Loops Go.Proofs.Ytgemfighmnnmeaa.Bits Go.Proofs.Ytgemfighmnnmeaa.Valid Go.Proofs.Ytgemfighmnnmeaa.FamLaw Go.Proofs.Ytgemfighmnnmeaa.Ops Go.Proofs.Ytgemfighmnnmeaa.Opens Go.Proofs.Ytgemfighmnnmeaa.Crowds Go.Proofs.Ytgemfighmnnmeaa.From Go.Proofs.Ytgemfighmnnmeaa.Ref Go.Proofs.Ytgemfighmnnmeaa.Some

theorem opens_is {gs : List (List Int)} (hg : Smalls gs) {c : Nat} (hc : c < 128) (m : Int) : impl_Family_opens.f m gs (c : Int) = some (openN gs c) := by
  show opensF gs (c : Int) = _
  unfold opensF
  rw [if_pos ⟨hg, by omega, by omega⟩]
  rfl
theorem bytes_of {l : List Int} (h : ∀ x ∈ l, (Lit.int .u8 x).wf = true) : Bytes l := fun x hx => byte_of (h x hx)

end Go.Proofs.Ytgemfighmnnmeaa.TMay
