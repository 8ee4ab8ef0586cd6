/-
  No cell of these rows narrows 'for every input' (looked for: loops, veiled, ifaces, maps, wideKeys, modest, calm, conditions, laid).
  DERIVED. THE GIVEN ROWS OF THIS SEAT. 12 by the template 'for every input the law returns true; each argument reads behind the call as it read before'; 0 by the template 'total and deterministic' (their statements: YtmeaffkgnmgmeaaTotals.lean).
  GIVEN WITH THE SEED: the statements are not yours to turn. If you find one false, say at which input.
  Laid BY PROGRAM, IN A SANDBOX (cutbox-rows.mjs): the forced cells as the released guide's own fill.sh prints them over the translation 9b433d40527c3270… (all of the seat's roots in one cut). By AI agents, Wed Nov 11 2026. No macro, syntax, notation, axiom, sorry.
-/
import Derived.Test.YtmeaffkgnmgmeaaChecked
import GoSem.Claim
import GoSem.ClaimJoined
import GoSem.ClaimMapViews
import Derived.JoinedTies
import Derived.KernelRfl
namespace Go.Proofs.Ytmeaffkgnmgmeaa
/- THE CELL 'sum', in the pinned program and in every row, IS THE sha256 OF THE DUMP (.gsa) THAT YtmeaffkgnmgmeaaProg.lean LOADS. Nothing in Lean hashes anything: it is a label: what it is worth is what the hold of that sum in a sandbox is worth. -/
noncomputable def Try.pinned : Pinned := { name := "ytmeaffkgnmgmeaa", sum := "9b433d40527c3270de83da83ebda9594e3cd839e0d0e3165138eb74f8478204c", checked := Try.checked }
namespace Rows
def none {H : Type} : Left H := { results := [], args := [] }

/-- 'laws.FnThreshold': WHATEVER THE INPUT: true; the input reads as it did. -/
def fnThresholdSpec : ChangeSpec := { name := "fnThreshold", fn := fun _ => fun
  | [d1, d2] => { results := [.lit (.bool true)], args := [d1, d2] }
  | _ => none }
def fnThresholdRow : OpenClaim := { program := "ytmeaffkgnmgmeaa", sum := "9b433d40527c3270de83da83ebda9594e3cd839e0d0e3165138eb74f8478204c", func := "loop.example/g01117/laws.FnThreshold", spec := "fnThreshold", unfollowed := true, recurses := true, apart := false }
def FnThresholdSaid : Prop := fnThresholdRow.holds Try.pinned (OpenSpec.ofChange fnThresholdSpec)

/-- ITS FALSE NEIGHBOUR: 'it returns false'. Refute it at one input. -/
def fnThresholdWrong : ChangeSpec := { name := "fnThreshold", fn := fun _ => fun
  | [d1, d2] => { results := [.lit (.bool false)], args := [d1, d2] }
  | _ => none }
def FnThresholdWrongFalsely : Prop := fnThresholdRow.holds Try.pinned (OpenSpec.ofChange fnThresholdWrong)

/-- 'laws.FnPut': WHATEVER THE INPUT: true; the input reads as it did. -/
def fnPutSpec : ChangeSpec := { name := "fnPut", fn := fun _ => fun
  | [d1, d2] => { results := [.lit (.bool true)], args := [d1, d2] }
  | _ => none }
def fnPutRow : OpenClaim := { program := "ytmeaffkgnmgmeaa", sum := "9b433d40527c3270de83da83ebda9594e3cd839e0d0e3165138eb74f8478204c", func := "loop.example/g01117/laws.FnPut", spec := "fnPut", unfollowed := true, recurses := true, apart := false }
def FnPutSaid : Prop := fnPutRow.holds Try.pinned (OpenSpec.ofChange fnPutSpec)

/-- ITS FALSE NEIGHBOUR: 'it returns false'. Refute it at one input. -/
def fnPutWrong : ChangeSpec := { name := "fnPut", fn := fun _ => fun
  | [d1, d2] => { results := [.lit (.bool false)], args := [d1, d2] }
  | _ => none }
def FnPutWrongFalsely : Prop := fnPutRow.holds Try.pinned (OpenSpec.ofChange fnPutWrong)

/-- 'laws.FnExactFamilyOf': WHATEVER THE INPUT: true; the input reads as it did. -/
def fnExactFamilyOfSpec : ChangeSpec := { name := "fnExactFamilyOf", fn := fun _ => fun
  | [d1, d2] => { results := [.lit (.bool true)], args := [d1, d2] }
  | _ => none }
def fnExactFamilyOfRow : OpenClaim := { program := "ytmeaffkgnmgmeaa", sum := "9b433d40527c3270de83da83ebda9594e3cd839e0d0e3165138eb74f8478204c", func := "loop.example/g01117/laws.FnExactFamilyOf", spec := "fnExactFamilyOf", unfollowed := true, recurses := true, apart := false }
def FnExactFamilyOfSaid : Prop := fnExactFamilyOfRow.holds Try.pinned (OpenSpec.ofChange fnExactFamilyOfSpec)

/-- ITS FALSE NEIGHBOUR: 'it returns false'. Refute it at one input. -/
def fnExactFamilyOfWrong : ChangeSpec := { name := "fnExactFamilyOf", fn := fun _ => fun
  | [d1, d2] => { results := [.lit (.bool false)], args := [d1, d2] }
  | _ => none }
def FnExactFamilyOfWrongFalsely : Prop := fnExactFamilyOfRow.holds Try.pinned (OpenSpec.ofChange fnExactFamilyOfWrong)

/-- 'laws.FnLattice': WHATEVER THE INPUT: true; the input reads as it did. -/
def fnLatticeSpec : ChangeSpec := { name := "fnLattice", fn := fun _ => fun
  | [d1, d2] => { results := [.lit (.bool true)], args := [d1, d2] }
  | _ => none }
def fnLatticeRow : OpenClaim := { program := "ytmeaffkgnmgmeaa", sum := "9b433d40527c3270de83da83ebda9594e3cd839e0d0e3165138eb74f8478204c", func := "loop.example/g01117/laws.FnLattice", spec := "fnLattice", unfollowed := true, recurses := true, apart := false }
def FnLatticeSaid : Prop := fnLatticeRow.holds Try.pinned (OpenSpec.ofChange fnLatticeSpec)

/-- ITS FALSE NEIGHBOUR: 'it returns false'. Refute it at one input. -/
def fnLatticeWrong : ChangeSpec := { name := "fnLattice", fn := fun _ => fun
  | [d1, d2] => { results := [.lit (.bool false)], args := [d1, d2] }
  | _ => none }
def FnLatticeWrongFalsely : Prop := fnLatticeRow.holds Try.pinned (OpenSpec.ofChange fnLatticeWrong)

/-- 'laws.FnOpens': WHATEVER THE INPUT: true; the input reads as it did. -/
def fnOpensSpec : ChangeSpec := { name := "fnOpens", fn := fun _ => fun
  | [d1, d2] => { results := [.lit (.bool true)], args := [d1, d2] }
  | _ => none }
def fnOpensRow : OpenClaim := { program := "ytmeaffkgnmgmeaa", sum := "9b433d40527c3270de83da83ebda9594e3cd839e0d0e3165138eb74f8478204c", func := "loop.example/g01117/laws.FnOpens", spec := "fnOpens", unfollowed := true, recurses := true, apart := false }
def FnOpensSaid : Prop := fnOpensRow.holds Try.pinned (OpenSpec.ofChange fnOpensSpec)

/-- ITS FALSE NEIGHBOUR: 'it returns false'. Refute it at one input. -/
def fnOpensWrong : ChangeSpec := { name := "fnOpens", fn := fun _ => fun
  | [d1, d2] => { results := [.lit (.bool false)], args := [d1, d2] }
  | _ => none }
def FnOpensWrongFalsely : Prop := fnOpensRow.holds Try.pinned (OpenSpec.ofChange fnOpensWrong)

/-- 'laws.FnExactOpeningGroups': WHATEVER THE INPUT: true; the input reads as it did. -/
def fnExactOpeningGroupsSpec : ChangeSpec := { name := "fnExactOpeningGroups", fn := fun _ => fun
  | [d] => { results := [.lit (.bool true)], args := [d] }
  | _ => none }
def fnExactOpeningGroupsRow : OpenClaim := { program := "ytmeaffkgnmgmeaa", sum := "9b433d40527c3270de83da83ebda9594e3cd839e0d0e3165138eb74f8478204c", func := "loop.example/g01117/laws.FnExactOpeningGroups", spec := "fnExactOpeningGroups", unfollowed := true, recurses := true, apart := false }
def FnExactOpeningGroupsSaid : Prop := fnExactOpeningGroupsRow.holds Try.pinned (OpenSpec.ofChange fnExactOpeningGroupsSpec)

/-- ITS FALSE NEIGHBOUR: 'it returns false'. Refute it at one input. -/
def fnExactOpeningGroupsWrong : ChangeSpec := { name := "fnExactOpeningGroups", fn := fun _ => fun
  | [d] => { results := [.lit (.bool false)], args := [d] }
  | _ => none }
def FnExactOpeningGroupsWrongFalsely : Prop := fnExactOpeningGroupsRow.holds Try.pinned (OpenSpec.ofChange fnExactOpeningGroupsWrong)

/-- 'laws.FnDual': WHATEVER THE INPUT: true; the input reads as it did. -/
def fnDualSpec : ChangeSpec := { name := "fnDual", fn := fun _ => fun
  | [d1, d2] => { results := [.lit (.bool true)], args := [d1, d2] }
  | _ => none }
def fnDualRow : OpenClaim := { program := "ytmeaffkgnmgmeaa", sum := "9b433d40527c3270de83da83ebda9594e3cd839e0d0e3165138eb74f8478204c", func := "loop.example/g01117/laws.FnDual", spec := "fnDual", unfollowed := true, recurses := true, apart := false }
def FnDualSaid : Prop := fnDualRow.holds Try.pinned (OpenSpec.ofChange fnDualSpec)

/-- ITS FALSE NEIGHBOUR: 'it returns false'. Refute it at one input. -/
def fnDualWrong : ChangeSpec := { name := "fnDual", fn := fun _ => fun
  | [d1, d2] => { results := [.lit (.bool false)], args := [d1, d2] }
  | _ => none }
def FnDualWrongFalsely : Prop := fnDualRow.holds Try.pinned (OpenSpec.ofChange fnDualWrong)

/-- 'laws.FnMinors': WHATEVER THE INPUT: true; the input reads as it did. -/
def fnMinorsSpec : ChangeSpec := { name := "fnMinors", fn := fun _ => fun
  | [d1, d2] => { results := [.lit (.bool true)], args := [d1, d2] }
  | _ => none }
def fnMinorsRow : OpenClaim := { program := "ytmeaffkgnmgmeaa", sum := "9b433d40527c3270de83da83ebda9594e3cd839e0d0e3165138eb74f8478204c", func := "loop.example/g01117/laws.FnMinors", spec := "fnMinors", unfollowed := true, recurses := true, apart := false }
def FnMinorsSaid : Prop := fnMinorsRow.holds Try.pinned (OpenSpec.ofChange fnMinorsSpec)

/-- ITS FALSE NEIGHBOUR: 'it returns false'. Refute it at one input. -/
def fnMinorsWrong : ChangeSpec := { name := "fnMinors", fn := fun _ => fun
  | [d1, d2] => { results := [.lit (.bool false)], args := [d1, d2] }
  | _ => none }
def FnMinorsWrongFalsely : Prop := fnMinorsRow.holds Try.pinned (OpenSpec.ofChange fnMinorsWrong)

/-- 'laws.FnExactGreatestBlocked': WHATEVER THE INPUT: true; the input reads as it did. -/
def fnExactGreatestBlockedSpec : ChangeSpec := { name := "fnExactGreatestBlocked", fn := fun _ => fun
  | [d] => { results := [.lit (.bool true)], args := [d] }
  | _ => none }
def fnExactGreatestBlockedRow : OpenClaim := { program := "ytmeaffkgnmgmeaa", sum := "9b433d40527c3270de83da83ebda9594e3cd839e0d0e3165138eb74f8478204c", func := "loop.example/g01117/laws.FnExactGreatestBlocked", spec := "fnExactGreatestBlocked", unfollowed := true, recurses := true, apart := false }
def FnExactGreatestBlockedSaid : Prop := fnExactGreatestBlockedRow.holds Try.pinned (OpenSpec.ofChange fnExactGreatestBlockedSpec)

/-- ITS FALSE NEIGHBOUR: 'it returns false'. Refute it at one input. -/
def fnExactGreatestBlockedWrong : ChangeSpec := { name := "fnExactGreatestBlocked", fn := fun _ => fun
  | [d] => { results := [.lit (.bool false)], args := [d] }
  | _ => none }
def FnExactGreatestBlockedWrongFalsely : Prop := fnExactGreatestBlockedRow.holds Try.pinned (OpenSpec.ofChange fnExactGreatestBlockedWrong)

/-- 'laws.FnExactDualFamily': WHATEVER THE INPUT: true; the input reads as it did. -/
def fnExactDualFamilySpec : ChangeSpec := { name := "fnExactDualFamily", fn := fun _ => fun
  | [d] => { results := [.lit (.bool true)], args := [d] }
  | _ => none }
def fnExactDualFamilyRow : OpenClaim := { program := "ytmeaffkgnmgmeaa", sum := "9b433d40527c3270de83da83ebda9594e3cd839e0d0e3165138eb74f8478204c", func := "loop.example/g01117/laws.FnExactDualFamily", spec := "fnExactDualFamily", unfollowed := true, recurses := true, apart := false }
def FnExactDualFamilySaid : Prop := fnExactDualFamilyRow.holds Try.pinned (OpenSpec.ofChange fnExactDualFamilySpec)

/-- ITS FALSE NEIGHBOUR: 'it returns false'. Refute it at one input. -/
def fnExactDualFamilyWrong : ChangeSpec := { name := "fnExactDualFamily", fn := fun _ => fun
  | [d] => { results := [.lit (.bool false)], args := [d] }
  | _ => none }
def FnExactDualFamilyWrongFalsely : Prop := fnExactDualFamilyRow.holds Try.pinned (OpenSpec.ofChange fnExactDualFamilyWrong)

/-- 'laws.FnExactBothFamilies': WHATEVER THE INPUT: true; the input reads as it did. -/
def fnExactBothFamiliesSpec : ChangeSpec := { name := "fnExactBothFamilies", fn := fun _ => fun
  | [d1, d2] => { results := [.lit (.bool true)], args := [d1, d2] }
  | _ => none }
def fnExactBothFamiliesRow : OpenClaim := { program := "ytmeaffkgnmgmeaa", sum := "9b433d40527c3270de83da83ebda9594e3cd839e0d0e3165138eb74f8478204c", func := "loop.example/g01117/laws.FnExactBothFamilies", spec := "fnExactBothFamilies", unfollowed := true, recurses := true, apart := false }
def FnExactBothFamiliesSaid : Prop := fnExactBothFamiliesRow.holds Try.pinned (OpenSpec.ofChange fnExactBothFamiliesSpec)

/-- ITS FALSE NEIGHBOUR: 'it returns false'. Refute it at one input. -/
def fnExactBothFamiliesWrong : ChangeSpec := { name := "fnExactBothFamilies", fn := fun _ => fun
  | [d1, d2] => { results := [.lit (.bool false)], args := [d1, d2] }
  | _ => none }
def FnExactBothFamiliesWrongFalsely : Prop := fnExactBothFamiliesRow.holds Try.pinned (OpenSpec.ofChange fnExactBothFamiliesWrong)

/-- 'laws.FnExactEitherFamily': WHATEVER THE INPUT: true; the input reads as it did. -/
def fnExactEitherFamilySpec : ChangeSpec := { name := "fnExactEitherFamily", fn := fun _ => fun
  | [d1, d2] => { results := [.lit (.bool true)], args := [d1, d2] }
  | _ => none }
def fnExactEitherFamilyRow : OpenClaim := { program := "ytmeaffkgnmgmeaa", sum := "9b433d40527c3270de83da83ebda9594e3cd839e0d0e3165138eb74f8478204c", func := "loop.example/g01117/laws.FnExactEitherFamily", spec := "fnExactEitherFamily", unfollowed := true, recurses := true, apart := false }
def FnExactEitherFamilySaid : Prop := fnExactEitherFamilyRow.holds Try.pinned (OpenSpec.ofChange fnExactEitherFamilySpec)

/-- ITS FALSE NEIGHBOUR: 'it returns false'. Refute it at one input. -/
def fnExactEitherFamilyWrong : ChangeSpec := { name := "fnExactEitherFamily", fn := fun _ => fun
  | [d1, d2] => { results := [.lit (.bool false)], args := [d1, d2] }
  | _ => none }
def FnExactEitherFamilyWrongFalsely : Prop := fnExactEitherFamilyRow.holds Try.pinned (OpenSpec.ofChange fnExactEitherFamilyWrong)

/- THE SECOND FORM. 'bulk': how many values and letters a reading holds, each counted each time it is reached (what is shared counts as often as it is met; a slice's spare places count too). A statement '..UptoSaid' is the law's where the arguments, and the package variables that the reading takes, are together of bulk at most 1048576: NARROWER than '..Said'. Prove '..Said' where nothing that the law and all that it calls make is longer than what came in: it says more and counts as full. Else prove '..UptoSaid'. A law counts once. -/
mutual
def uptoBulk {H : Type} : DataW H → Nat
  | .lit (.string bytes) => bytes.length + 1
  | .lit _ => 1
  | .nil => 1
  | .ptr d => uptoBulk d + 1
  | .slice elems spare => uptoBulkAll elems + uptoBulkAll spare + 1
  | .agg parts => uptoBulkAll parts + 1
  | .iface _ d => uptoBulk d + 1
  | .map entries => uptoBulkEntries entries + 1
  | .held _ => 1
def uptoBulkAll {H : Type} : List (DataW H) → Nat
  | [] => 0
  | d :: r => uptoBulk d + uptoBulkAll r
def uptoBulkEntries {H : Type} : List (Lit × DataW H) → Nat
  | [] => 0
  | x :: r => uptoBulkEntry x + uptoBulkEntries r
def uptoBulkEntry {H : Type} : Lit × DataW H → Nat
  | (.string bytes, d) => bytes.length + uptoBulk d + 1
  | (_, d) => uptoBulk d + 1
 end
def uptoSmall : (H : Type) → List (DataW H) → Bool := fun _ ds => decide (uptoBulkAll ds ≤ 1048576)
def OpenSpec.upto (s : _root_.Go.ChangeSpec) : _root_.Go.OpenSpec := { _root_.Go.OpenSpec.ofChange s with cond := some uptoSmall }

/-- 'laws.FnThreshold', WHERE WHAT IT READS IS OF BULK AT MOST 1048576: true; the input reads as it did. -/
def fnThresholdUptoRow : OpenClaim := { program := "ytmeaffkgnmgmeaa", sum := "9b433d40527c3270de83da83ebda9594e3cd839e0d0e3165138eb74f8478204c", func := "loop.example/g01117/laws.FnThreshold", spec := "fnThreshold", unfollowed := true, recurses := true, apart := false, narrowed := true }
def FnThresholdUptoSaid : Prop := fnThresholdUptoRow.holds Try.pinned (OpenSpec.upto fnThresholdSpec)

/-- 'laws.FnPut', WHERE WHAT IT READS IS OF BULK AT MOST 1048576: true; the input reads as it did. -/
def fnPutUptoRow : OpenClaim := { program := "ytmeaffkgnmgmeaa", sum := "9b433d40527c3270de83da83ebda9594e3cd839e0d0e3165138eb74f8478204c", func := "loop.example/g01117/laws.FnPut", spec := "fnPut", unfollowed := true, recurses := true, apart := false, narrowed := true }
def FnPutUptoSaid : Prop := fnPutUptoRow.holds Try.pinned (OpenSpec.upto fnPutSpec)

/-- 'laws.FnExactFamilyOf', WHERE WHAT IT READS IS OF BULK AT MOST 1048576: true; the input reads as it did. -/
def fnExactFamilyOfUptoRow : OpenClaim := { program := "ytmeaffkgnmgmeaa", sum := "9b433d40527c3270de83da83ebda9594e3cd839e0d0e3165138eb74f8478204c", func := "loop.example/g01117/laws.FnExactFamilyOf", spec := "fnExactFamilyOf", unfollowed := true, recurses := true, apart := false, narrowed := true }
def FnExactFamilyOfUptoSaid : Prop := fnExactFamilyOfUptoRow.holds Try.pinned (OpenSpec.upto fnExactFamilyOfSpec)

/-- 'laws.FnLattice', WHERE WHAT IT READS IS OF BULK AT MOST 1048576: true; the input reads as it did. -/
def fnLatticeUptoRow : OpenClaim := { program := "ytmeaffkgnmgmeaa", sum := "9b433d40527c3270de83da83ebda9594e3cd839e0d0e3165138eb74f8478204c", func := "loop.example/g01117/laws.FnLattice", spec := "fnLattice", unfollowed := true, recurses := true, apart := false, narrowed := true }
def FnLatticeUptoSaid : Prop := fnLatticeUptoRow.holds Try.pinned (OpenSpec.upto fnLatticeSpec)

/-- 'laws.FnOpens', WHERE WHAT IT READS IS OF BULK AT MOST 1048576: true; the input reads as it did. -/
def fnOpensUptoRow : OpenClaim := { program := "ytmeaffkgnmgmeaa", sum := "9b433d40527c3270de83da83ebda9594e3cd839e0d0e3165138eb74f8478204c", func := "loop.example/g01117/laws.FnOpens", spec := "fnOpens", unfollowed := true, recurses := true, apart := false, narrowed := true }
def FnOpensUptoSaid : Prop := fnOpensUptoRow.holds Try.pinned (OpenSpec.upto fnOpensSpec)

/-- 'laws.FnExactOpeningGroups', WHERE WHAT IT READS IS OF BULK AT MOST 1048576: true; the input reads as it did. -/
def fnExactOpeningGroupsUptoRow : OpenClaim := { program := "ytmeaffkgnmgmeaa", sum := "9b433d40527c3270de83da83ebda9594e3cd839e0d0e3165138eb74f8478204c", func := "loop.example/g01117/laws.FnExactOpeningGroups", spec := "fnExactOpeningGroups", unfollowed := true, recurses := true, apart := false, narrowed := true }
def FnExactOpeningGroupsUptoSaid : Prop := fnExactOpeningGroupsUptoRow.holds Try.pinned (OpenSpec.upto fnExactOpeningGroupsSpec)

/-- 'laws.FnDual', WHERE WHAT IT READS IS OF BULK AT MOST 1048576: true; the input reads as it did. -/
def fnDualUptoRow : OpenClaim := { program := "ytmeaffkgnmgmeaa", sum := "9b433d40527c3270de83da83ebda9594e3cd839e0d0e3165138eb74f8478204c", func := "loop.example/g01117/laws.FnDual", spec := "fnDual", unfollowed := true, recurses := true, apart := false, narrowed := true }
def FnDualUptoSaid : Prop := fnDualUptoRow.holds Try.pinned (OpenSpec.upto fnDualSpec)

/-- 'laws.FnMinors', WHERE WHAT IT READS IS OF BULK AT MOST 1048576: true; the input reads as it did. -/
def fnMinorsUptoRow : OpenClaim := { program := "ytmeaffkgnmgmeaa", sum := "9b433d40527c3270de83da83ebda9594e3cd839e0d0e3165138eb74f8478204c", func := "loop.example/g01117/laws.FnMinors", spec := "fnMinors", unfollowed := true, recurses := true, apart := false, narrowed := true }
def FnMinorsUptoSaid : Prop := fnMinorsUptoRow.holds Try.pinned (OpenSpec.upto fnMinorsSpec)

/-- 'laws.FnExactGreatestBlocked', WHERE WHAT IT READS IS OF BULK AT MOST 1048576: true; the input reads as it did. -/
def fnExactGreatestBlockedUptoRow : OpenClaim := { program := "ytmeaffkgnmgmeaa", sum := "9b433d40527c3270de83da83ebda9594e3cd839e0d0e3165138eb74f8478204c", func := "loop.example/g01117/laws.FnExactGreatestBlocked", spec := "fnExactGreatestBlocked", unfollowed := true, recurses := true, apart := false, narrowed := true }
def FnExactGreatestBlockedUptoSaid : Prop := fnExactGreatestBlockedUptoRow.holds Try.pinned (OpenSpec.upto fnExactGreatestBlockedSpec)

/-- 'laws.FnExactDualFamily', WHERE WHAT IT READS IS OF BULK AT MOST 1048576: true; the input reads as it did. -/
def fnExactDualFamilyUptoRow : OpenClaim := { program := "ytmeaffkgnmgmeaa", sum := "9b433d40527c3270de83da83ebda9594e3cd839e0d0e3165138eb74f8478204c", func := "loop.example/g01117/laws.FnExactDualFamily", spec := "fnExactDualFamily", unfollowed := true, recurses := true, apart := false, narrowed := true }
def FnExactDualFamilyUptoSaid : Prop := fnExactDualFamilyUptoRow.holds Try.pinned (OpenSpec.upto fnExactDualFamilySpec)

/-- 'laws.FnExactBothFamilies', WHERE WHAT IT READS IS OF BULK AT MOST 1048576: true; the input reads as it did. -/
def fnExactBothFamiliesUptoRow : OpenClaim := { program := "ytmeaffkgnmgmeaa", sum := "9b433d40527c3270de83da83ebda9594e3cd839e0d0e3165138eb74f8478204c", func := "loop.example/g01117/laws.FnExactBothFamilies", spec := "fnExactBothFamilies", unfollowed := true, recurses := true, apart := false, narrowed := true }
def FnExactBothFamiliesUptoSaid : Prop := fnExactBothFamiliesUptoRow.holds Try.pinned (OpenSpec.upto fnExactBothFamiliesSpec)

/-- 'laws.FnExactEitherFamily', WHERE WHAT IT READS IS OF BULK AT MOST 1048576: true; the input reads as it did. -/
def fnExactEitherFamilyUptoRow : OpenClaim := { program := "ytmeaffkgnmgmeaa", sum := "9b433d40527c3270de83da83ebda9594e3cd839e0d0e3165138eb74f8478204c", func := "loop.example/g01117/laws.FnExactEitherFamily", spec := "fnExactEitherFamily", unfollowed := true, recurses := true, apart := false, narrowed := true }
def FnExactEitherFamilyUptoSaid : Prop := fnExactEitherFamilyUptoRow.holds Try.pinned (OpenSpec.upto fnExactEitherFamilySpec)

end Rows
end Go.Proofs.Ytmeaffkgnmgmeaa
