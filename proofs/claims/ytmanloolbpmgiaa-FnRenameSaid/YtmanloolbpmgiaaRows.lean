/-
  NARROWER THAN 'FOR EVERY INPUT', by the rows' own cells (each row's printed sentence says how): FnExactFamilyOfGate: loops.
  DERIVED. THE GIVEN ROWS OF THIS SEAT. 8 by the template 'for every input the law returns true; each argument reads behind the call as it read before'; 0 by the template 'total and deterministic' (their statements: YtmanloolbpmgiaaTotals.lean).
  GIVEN WITH THE SEED: the statements are not yours to turn. If you find one false, say at which input.
  Laid BY PROGRAM, IN A SANDBOX (cutbox-rows.mjs): the forced cells as the released guide's own fill.sh prints them over the translation b7a9ece0b03490fd… (all of the seat's roots in one cut). By AI agents, Wed Nov 11 2026. No macro, syntax, notation, axiom, sorry.
-/
import Derived.Test.YtmanloolbpmgiaaChecked
import GoSem.Claim
import GoSem.ClaimJoined
import GoSem.ClaimMapViews
import Derived.JoinedTies
import Derived.KernelRfl
namespace Go.Proofs.Ytmanloolbpmgiaa
/- THE CELL 'sum', in the pinned program and in every row, IS THE sha256 OF THE DUMP (.gsa) THAT YtmanloolbpmgiaaProg.lean LOADS. Nothing in Lean hashes anything: it is a label: what it is worth is what the hold of that sum in a sandbox is worth. -/
noncomputable def Try.pinned : Pinned := { name := "ytmanloolbpmgiaa", sum := "b7a9ece0b03490fd0291842f68039cc09afd9cb61e22cac91565b31447870502", checked := Try.checked }
namespace Rows
def none {H : Type} : Left H := { results := [], args := [] }

/-- 'laws.FnOpens': WHATEVER THE INPUT: true; the input reads as it did. -/
def fnOpensSpec : ChangeSpec := { name := "fnOpens", fn := fun _ => fun
  | [d1, d2] => { results := [.lit (.bool true)], args := [d1, d2] }
  | _ => none }
def fnOpensRow : OpenClaim := { program := "ytmanloolbpmgiaa", sum := "b7a9ece0b03490fd0291842f68039cc09afd9cb61e22cac91565b31447870502", func := "loop.example/g01117/laws.FnOpens", spec := "fnOpens", unfollowed := true, recurses := true, apart := false }
def FnOpensSaid : Prop := fnOpensRow.holds Try.pinned (OpenSpec.ofChange fnOpensSpec)

/-- ITS FALSE NEIGHBOUR: 'it returns false'. Refute it at one input. -/
def fnOpensWrong : ChangeSpec := { name := "fnOpens", fn := fun _ => fun
  | [d1, d2] => { results := [.lit (.bool false)], args := [d1, d2] }
  | _ => none }
def FnOpensWrongFalsely : Prop := fnOpensRow.holds Try.pinned (OpenSpec.ofChange fnOpensWrong)

/-- 'laws.FnWorth': WHATEVER THE INPUT: true; the input reads as it did. -/
def fnWorthSpec : ChangeSpec := { name := "fnWorth", fn := fun _ => fun
  | [d1, d2] => { results := [.lit (.bool true)], args := [d1, d2] }
  | _ => none }
def fnWorthRow : OpenClaim := { program := "ytmanloolbpmgiaa", sum := "b7a9ece0b03490fd0291842f68039cc09afd9cb61e22cac91565b31447870502", func := "loop.example/g01117/laws.FnWorth", spec := "fnWorth", unfollowed := true, recurses := true, apart := false }
def FnWorthSaid : Prop := fnWorthRow.holds Try.pinned (OpenSpec.ofChange fnWorthSpec)

/-- ITS FALSE NEIGHBOUR: 'it returns false'. Refute it at one input. -/
def fnWorthWrong : ChangeSpec := { name := "fnWorth", fn := fun _ => fun
  | [d1, d2] => { results := [.lit (.bool false)], args := [d1, d2] }
  | _ => none }
def FnWorthWrongFalsely : Prop := fnWorthRow.holds Try.pinned (OpenSpec.ofChange fnWorthWrong)

/-- 'laws.FnRename': WHATEVER THE INPUT: true; the input reads as it did. -/
def fnRenameSpec : ChangeSpec := { name := "fnRename", fn := fun _ => fun
  | [d1, d2] => { results := [.lit (.bool true)], args := [d1, d2] }
  | _ => none }
def fnRenameRow : OpenClaim := { program := "ytmanloolbpmgiaa", sum := "b7a9ece0b03490fd0291842f68039cc09afd9cb61e22cac91565b31447870502", func := "loop.example/g01117/laws.FnRename", spec := "fnRename", unfollowed := true, recurses := true, apart := false }
def FnRenameSaid : Prop := fnRenameRow.holds Try.pinned (OpenSpec.ofChange fnRenameSpec)

/-- ITS FALSE NEIGHBOUR: 'it returns false'. Refute it at one input. -/
def fnRenameWrong : ChangeSpec := { name := "fnRename", fn := fun _ => fun
  | [d1, d2] => { results := [.lit (.bool false)], args := [d1, d2] }
  | _ => none }
def FnRenameWrongFalsely : Prop := fnRenameRow.holds Try.pinned (OpenSpec.ofChange fnRenameWrong)

/-- 'laws.FnExactRenameHolders': WHATEVER THE INPUT: true; the input reads as it did. -/
def fnExactRenameHoldersSpec : ChangeSpec := { name := "fnExactRenameHolders", fn := fun _ => fun
  | [d1, d2] => { results := [.lit (.bool true)], args := [d1, d2] }
  | _ => none }
def fnExactRenameHoldersRow : OpenClaim := { program := "ytmanloolbpmgiaa", sum := "b7a9ece0b03490fd0291842f68039cc09afd9cb61e22cac91565b31447870502", func := "loop.example/g01117/laws.FnExactRenameHolders", spec := "fnExactRenameHolders", unfollowed := true, recurses := true, apart := false }
def FnExactRenameHoldersSaid : Prop := fnExactRenameHoldersRow.holds Try.pinned (OpenSpec.ofChange fnExactRenameHoldersSpec)

/-- ITS FALSE NEIGHBOUR: 'it returns false'. Refute it at one input. -/
def fnExactRenameHoldersWrong : ChangeSpec := { name := "fnExactRenameHolders", fn := fun _ => fun
  | [d1, d2] => { results := [.lit (.bool false)], args := [d1, d2] }
  | _ => none }
def FnExactRenameHoldersWrongFalsely : Prop := fnExactRenameHoldersRow.holds Try.pinned (OpenSpec.ofChange fnExactRenameHoldersWrong)

/-- 'laws.FnExactModulesOf': WHATEVER THE INPUT: true; the input reads as it did. -/
def fnExactModulesOfSpec : ChangeSpec := { name := "fnExactModulesOf", fn := fun _ => fun
  | [d] => { results := [.lit (.bool true)], args := [d] }
  | _ => none }
def fnExactModulesOfRow : OpenClaim := { program := "ytmanloolbpmgiaa", sum := "b7a9ece0b03490fd0291842f68039cc09afd9cb61e22cac91565b31447870502", func := "loop.example/g01117/laws.FnExactModulesOf", spec := "fnExactModulesOf", unfollowed := true, recurses := true, apart := false }
def FnExactModulesOfSaid : Prop := fnExactModulesOfRow.holds Try.pinned (OpenSpec.ofChange fnExactModulesOfSpec)

/-- ITS FALSE NEIGHBOUR: 'it returns false'. Refute it at one input. -/
def fnExactModulesOfWrong : ChangeSpec := { name := "fnExactModulesOf", fn := fun _ => fun
  | [d] => { results := [.lit (.bool false)], args := [d] }
  | _ => none }
def FnExactModulesOfWrongFalsely : Prop := fnExactModulesOfRow.holds Try.pinned (OpenSpec.ofChange fnExactModulesOfWrong)

/-- 'laws.FnExactModuleFamily': WHATEVER THE INPUT: true; the input reads as it did. -/
def fnExactModuleFamilySpec : ChangeSpec := { name := "fnExactModuleFamily", fn := fun _ => fun
  | [d1, d2] => { results := [.lit (.bool true)], args := [d1, d2] }
  | _ => none }
def fnExactModuleFamilyRow : OpenClaim := { program := "ytmanloolbpmgiaa", sum := "b7a9ece0b03490fd0291842f68039cc09afd9cb61e22cac91565b31447870502", func := "loop.example/g01117/laws.FnExactModuleFamily", spec := "fnExactModuleFamily", unfollowed := true, recurses := true, apart := false }
def FnExactModuleFamilySaid : Prop := fnExactModuleFamilyRow.holds Try.pinned (OpenSpec.ofChange fnExactModuleFamilySpec)

/-- ITS FALSE NEIGHBOUR: 'it returns false'. Refute it at one input. -/
def fnExactModuleFamilyWrong : ChangeSpec := { name := "fnExactModuleFamily", fn := fun _ => fun
  | [d1, d2] => { results := [.lit (.bool false)], args := [d1, d2] }
  | _ => none }
def FnExactModuleFamilyWrongFalsely : Prop := fnExactModuleFamilyRow.holds Try.pinned (OpenSpec.ofChange fnExactModuleFamilyWrong)

/-- 'laws.FnExactOuterFamily': WHATEVER THE INPUT: true; the input reads as it did. -/
def fnExactOuterFamilySpec : ChangeSpec := { name := "fnExactOuterFamily", fn := fun _ => fun
  | [d1, d2] => { results := [.lit (.bool true)], args := [d1, d2] }
  | _ => none }
def fnExactOuterFamilyRow : OpenClaim := { program := "ytmanloolbpmgiaa", sum := "b7a9ece0b03490fd0291842f68039cc09afd9cb61e22cac91565b31447870502", func := "loop.example/g01117/laws.FnExactOuterFamily", spec := "fnExactOuterFamily", unfollowed := true, recurses := true, apart := false }
def FnExactOuterFamilySaid : Prop := fnExactOuterFamilyRow.holds Try.pinned (OpenSpec.ofChange fnExactOuterFamilySpec)

/-- ITS FALSE NEIGHBOUR: 'it returns false'. Refute it at one input. -/
def fnExactOuterFamilyWrong : ChangeSpec := { name := "fnExactOuterFamily", fn := fun _ => fun
  | [d1, d2] => { results := [.lit (.bool false)], args := [d1, d2] }
  | _ => none }
def FnExactOuterFamilyWrongFalsely : Prop := fnExactOuterFamilyRow.holds Try.pinned (OpenSpec.ofChange fnExactOuterFamilyWrong)

/-- 'laws.FnExactFamilyOfGate': WHATEVER THE INPUT: true; the input reads as it did. -/
def fnExactFamilyOfGateSpec : ChangeSpec := { name := "fnExactFamilyOfGate", fn := fun _ => fun
  | [d1, d2] => { results := [.lit (.bool true)], args := [d1, d2] }
  | _ => none }
def fnExactFamilyOfGateRow : OpenClaim := { program := "ytmanloolbpmgiaa", sum := "b7a9ece0b03490fd0291842f68039cc09afd9cb61e22cac91565b31447870502", func := "loop.example/g01117/laws.FnExactFamilyOfGate", spec := "fnExactFamilyOfGate", unfollowed := true, recurses := true, loops := true, apart := false }
def FnExactFamilyOfGateSaid : Prop := fnExactFamilyOfGateRow.holds Try.pinned (OpenSpec.ofChange fnExactFamilyOfGateSpec)

/-- ITS FALSE NEIGHBOUR: 'it returns false'. Refute it at one input. -/
def fnExactFamilyOfGateWrong : ChangeSpec := { name := "fnExactFamilyOfGate", fn := fun _ => fun
  | [d1, d2] => { results := [.lit (.bool false)], args := [d1, d2] }
  | _ => none }
def FnExactFamilyOfGateWrongFalsely : Prop := fnExactFamilyOfGateRow.holds Try.pinned (OpenSpec.ofChange fnExactFamilyOfGateWrong)

/- THE SECOND FORM. 'bulk': how many values and letters a reading holds, each counted each time it is reached (what is shared counts as often as it is met; a slice's spare places count too). A statement '..UptoSaid' is the law's where the arguments, and the package variables that the reading takes, are together of bulk at most 1048576: NARROWER than '..Said'. Prove '..Said' where nothing that the law and all that it calls make is longer than what came in: it says more and counts as full. Else prove '..UptoSaid'. A law counts once. -/
mutual
def uptoBulk {H : Type} : DataW H → Nat
  | .lit (.string bytes) => bytes.length + 1
  | .lit _ => 1
  | .nil => 1
  | .ptr d => uptoBulk d + 1
  | .slice elems spare => uptoBulkAll elems + uptoBulkAll spare + 1
  | .agg parts => uptoBulkAll parts + 1
  | .iface _ d => uptoBulk d + 1
  | .map entries => uptoBulkEntries entries + 1
  | .held _ => 1
def uptoBulkAll {H : Type} : List (DataW H) → Nat
  | [] => 0
  | d :: r => uptoBulk d + uptoBulkAll r
def uptoBulkEntries {H : Type} : List (Lit × DataW H) → Nat
  | [] => 0
  | x :: r => uptoBulkEntry x + uptoBulkEntries r
def uptoBulkEntry {H : Type} : Lit × DataW H → Nat
  | (.string bytes, d) => bytes.length + uptoBulk d + 1
  | (_, d) => uptoBulk d + 1
 end
def uptoSmall : (H : Type) → List (DataW H) → Bool := fun _ ds => decide (uptoBulkAll ds ≤ 1048576)
def OpenSpec.upto (s : _root_.Go.ChangeSpec) : _root_.Go.OpenSpec := { _root_.Go.OpenSpec.ofChange s with cond := some uptoSmall }

/-- 'laws.FnOpens', WHERE WHAT IT READS IS OF BULK AT MOST 1048576: true; the input reads as it did. -/
def fnOpensUptoRow : OpenClaim := { program := "ytmanloolbpmgiaa", sum := "b7a9ece0b03490fd0291842f68039cc09afd9cb61e22cac91565b31447870502", func := "loop.example/g01117/laws.FnOpens", spec := "fnOpens", unfollowed := true, recurses := true, apart := false, narrowed := true }
def FnOpensUptoSaid : Prop := fnOpensUptoRow.holds Try.pinned (OpenSpec.upto fnOpensSpec)

/-- 'laws.FnWorth', WHERE WHAT IT READS IS OF BULK AT MOST 1048576: true; the input reads as it did. -/
def fnWorthUptoRow : OpenClaim := { program := "ytmanloolbpmgiaa", sum := "b7a9ece0b03490fd0291842f68039cc09afd9cb61e22cac91565b31447870502", func := "loop.example/g01117/laws.FnWorth", spec := "fnWorth", unfollowed := true, recurses := true, apart := false, narrowed := true }
def FnWorthUptoSaid : Prop := fnWorthUptoRow.holds Try.pinned (OpenSpec.upto fnWorthSpec)

/-- 'laws.FnRename', WHERE WHAT IT READS IS OF BULK AT MOST 1048576: true; the input reads as it did. -/
def fnRenameUptoRow : OpenClaim := { program := "ytmanloolbpmgiaa", sum := "b7a9ece0b03490fd0291842f68039cc09afd9cb61e22cac91565b31447870502", func := "loop.example/g01117/laws.FnRename", spec := "fnRename", unfollowed := true, recurses := true, apart := false, narrowed := true }
def FnRenameUptoSaid : Prop := fnRenameUptoRow.holds Try.pinned (OpenSpec.upto fnRenameSpec)

/-- 'laws.FnExactRenameHolders', WHERE WHAT IT READS IS OF BULK AT MOST 1048576: true; the input reads as it did. -/
def fnExactRenameHoldersUptoRow : OpenClaim := { program := "ytmanloolbpmgiaa", sum := "b7a9ece0b03490fd0291842f68039cc09afd9cb61e22cac91565b31447870502", func := "loop.example/g01117/laws.FnExactRenameHolders", spec := "fnExactRenameHolders", unfollowed := true, recurses := true, apart := false, narrowed := true }
def FnExactRenameHoldersUptoSaid : Prop := fnExactRenameHoldersUptoRow.holds Try.pinned (OpenSpec.upto fnExactRenameHoldersSpec)

/-- 'laws.FnExactModulesOf', WHERE WHAT IT READS IS OF BULK AT MOST 1048576: true; the input reads as it did. -/
def fnExactModulesOfUptoRow : OpenClaim := { program := "ytmanloolbpmgiaa", sum := "b7a9ece0b03490fd0291842f68039cc09afd9cb61e22cac91565b31447870502", func := "loop.example/g01117/laws.FnExactModulesOf", spec := "fnExactModulesOf", unfollowed := true, recurses := true, apart := false, narrowed := true }
def FnExactModulesOfUptoSaid : Prop := fnExactModulesOfUptoRow.holds Try.pinned (OpenSpec.upto fnExactModulesOfSpec)

/-- 'laws.FnExactModuleFamily', WHERE WHAT IT READS IS OF BULK AT MOST 1048576: true; the input reads as it did. -/
def fnExactModuleFamilyUptoRow : OpenClaim := { program := "ytmanloolbpmgiaa", sum := "b7a9ece0b03490fd0291842f68039cc09afd9cb61e22cac91565b31447870502", func := "loop.example/g01117/laws.FnExactModuleFamily", spec := "fnExactModuleFamily", unfollowed := true, recurses := true, apart := false, narrowed := true }
def FnExactModuleFamilyUptoSaid : Prop := fnExactModuleFamilyUptoRow.holds Try.pinned (OpenSpec.upto fnExactModuleFamilySpec)

/-- 'laws.FnExactOuterFamily', WHERE WHAT IT READS IS OF BULK AT MOST 1048576: true; the input reads as it did. -/
def fnExactOuterFamilyUptoRow : OpenClaim := { program := "ytmanloolbpmgiaa", sum := "b7a9ece0b03490fd0291842f68039cc09afd9cb61e22cac91565b31447870502", func := "loop.example/g01117/laws.FnExactOuterFamily", spec := "fnExactOuterFamily", unfollowed := true, recurses := true, apart := false, narrowed := true }
def FnExactOuterFamilyUptoSaid : Prop := fnExactOuterFamilyUptoRow.holds Try.pinned (OpenSpec.upto fnExactOuterFamilySpec)

/-- 'laws.FnExactFamilyOfGate', WHERE WHAT IT READS IS OF BULK AT MOST 1048576: true; the input reads as it did. -/
def fnExactFamilyOfGateUptoRow : OpenClaim := { program := "ytmanloolbpmgiaa", sum := "b7a9ece0b03490fd0291842f68039cc09afd9cb61e22cac91565b31447870502", func := "loop.example/g01117/laws.FnExactFamilyOfGate", spec := "fnExactFamilyOfGate", unfollowed := true, recurses := true, loops := true, apart := false, narrowed := true }
def FnExactFamilyOfGateUptoSaid : Prop := fnExactFamilyOfGateUptoRow.holds Try.pinned (OpenSpec.upto fnExactFamilyOfGateSpec)

end Rows
end Go.Proofs.Ytmanloolbpmgiaa
