/-
  No cell of these rows narrows 'for every input' (looked for: loops, veiled, ifaces, maps, wideKeys, modest, calm, conditions, laid).
  DERIVED. THE GIVEN ROWS OF THIS SEAT. 12 by the template 'for every input the law returns true; each argument reads behind the call as it read before'; 0 by the template 'total and deterministic' (their statements: YtdahdeohmbadhaaTotals.lean).
  GIVEN WITH THE SEED: the statements are not yours to turn. If you find one false, say at which input.
  Laid BY PROGRAM, IN A SANDBOX (cutbox-rows.mjs): the forced cells as the released guide's own fill.sh prints them over the translation 455afb6207b3f733… (all of the seat's roots in one cut). By AI agents, Wed Nov 11 2026. No macro, syntax, notation, axiom, sorry.
-/
import Derived.Test.YtdahdeohmbadhaaChecked
import GoSem.Claim
import GoSem.ClaimJoined
import GoSem.ClaimMapViews
import Derived.JoinedTies
import Derived.KernelRfl
namespace Go.Proofs.Ytdahdeohmbadhaa
/- THE CELL 'sum', in the pinned program and in every row, IS THE sha256 OF THE DUMP (.gsa) THAT YtdahdeohmbadhaaProg.lean LOADS. Nothing in Lean hashes anything: it is a label: what it is worth is what the hold of that sum in a sandbox is worth. -/
noncomputable def Try.pinned : Pinned := { name := "ytdahdeohmbadhaa", sum := "455afb6207b3f7335d187b41918d4957340e35148d4efb6332a1118f00793794", checked := Try.checked }
namespace Rows
def none {H : Type} : Left H := { results := [], args := [] }

/-- 'laws.FnExactGatherTable': WHATEVER THE INPUT: true; the input reads as it did. -/
def fnExactGatherTableSpec : ChangeSpec := { name := "fnExactGatherTable", fn := fun _ => fun
  | [d1, d2, d3] => { results := [.lit (.bool true)], args := [d1, d2, d3] }
  | _ => none }
def fnExactGatherTableRow : OpenClaim := { program := "ytdahdeohmbadhaa", sum := "455afb6207b3f7335d187b41918d4957340e35148d4efb6332a1118f00793794", func := "loop.example/g01117/laws.FnExactGatherTable", spec := "fnExactGatherTable", unfollowed := true, recurses := true, apart := false }
def FnExactGatherTableSaid : Prop := fnExactGatherTableRow.holds Try.pinned (OpenSpec.ofChange fnExactGatherTableSpec)

/-- ITS FALSE NEIGHBOUR: 'it returns false'. Refute it at one input. -/
def fnExactGatherTableWrong : ChangeSpec := { name := "fnExactGatherTable", fn := fun _ => fun
  | [d1, d2, d3] => { results := [.lit (.bool false)], args := [d1, d2, d3] }
  | _ => none }
def FnExactGatherTableWrongFalsely : Prop := fnExactGatherTableRow.holds Try.pinned (OpenSpec.ofChange fnExactGatherTableWrong)

/-- 'laws.FnExactDropColumn': WHATEVER THE INPUT: true; the input reads as it did. -/
def fnExactDropColumnSpec : ChangeSpec := { name := "fnExactDropColumn", fn := fun _ => fun
  | [d1, d2] => { results := [.lit (.bool true)], args := [d1, d2] }
  | _ => none }
def fnExactDropColumnRow : OpenClaim := { program := "ytdahdeohmbadhaa", sum := "455afb6207b3f7335d187b41918d4957340e35148d4efb6332a1118f00793794", func := "loop.example/g01117/laws.FnExactDropColumn", spec := "fnExactDropColumn", unfollowed := true, recurses := true, apart := false }
def FnExactDropColumnSaid : Prop := fnExactDropColumnRow.holds Try.pinned (OpenSpec.ofChange fnExactDropColumnSpec)

/-- ITS FALSE NEIGHBOUR: 'it returns false'. Refute it at one input. -/
def fnExactDropColumnWrong : ChangeSpec := { name := "fnExactDropColumn", fn := fun _ => fun
  | [d1, d2] => { results := [.lit (.bool false)], args := [d1, d2] }
  | _ => none }
def FnExactDropColumnWrongFalsely : Prop := fnExactDropColumnRow.holds Try.pinned (OpenSpec.ofChange fnExactDropColumnWrong)

/-- 'laws.FnExactFixColumn': WHATEVER THE INPUT: true; the input reads as it did. -/
def fnExactFixColumnSpec : ChangeSpec := { name := "fnExactFixColumn", fn := fun _ => fun
  | [d1, d2, d3] => { results := [.lit (.bool true)], args := [d1, d2, d3] }
  | _ => none }
def fnExactFixColumnRow : OpenClaim := { program := "ytdahdeohmbadhaa", sum := "455afb6207b3f7335d187b41918d4957340e35148d4efb6332a1118f00793794", func := "loop.example/g01117/laws.FnExactFixColumn", spec := "fnExactFixColumn", unfollowed := true, recurses := true, apart := false }
def FnExactFixColumnSaid : Prop := fnExactFixColumnRow.holds Try.pinned (OpenSpec.ofChange fnExactFixColumnSpec)

/-- ITS FALSE NEIGHBOUR: 'it returns false'. Refute it at one input. -/
def fnExactFixColumnWrong : ChangeSpec := { name := "fnExactFixColumn", fn := fun _ => fun
  | [d1, d2, d3] => { results := [.lit (.bool false)], args := [d1, d2, d3] }
  | _ => none }
def FnExactFixColumnWrongFalsely : Prop := fnExactFixColumnRow.holds Try.pinned (OpenSpec.ofChange fnExactFixColumnWrong)

/-- 'laws.FnExactPairTables': WHATEVER THE INPUT: true; the input reads as it did. -/
def fnExactPairTablesSpec : ChangeSpec := { name := "fnExactPairTables", fn := fun _ => fun
  | [d1, d2] => { results := [.lit (.bool true)], args := [d1, d2] }
  | _ => none }
def fnExactPairTablesRow : OpenClaim := { program := "ytdahdeohmbadhaa", sum := "455afb6207b3f7335d187b41918d4957340e35148d4efb6332a1118f00793794", func := "loop.example/g01117/laws.FnExactPairTables", spec := "fnExactPairTables", unfollowed := true, recurses := true, apart := false }
def FnExactPairTablesSaid : Prop := fnExactPairTablesRow.holds Try.pinned (OpenSpec.ofChange fnExactPairTablesSpec)

/-- ITS FALSE NEIGHBOUR: 'it returns false'. Refute it at one input. -/
def fnExactPairTablesWrong : ChangeSpec := { name := "fnExactPairTables", fn := fun _ => fun
  | [d1, d2] => { results := [.lit (.bool false)], args := [d1, d2] }
  | _ => none }
def FnExactPairTablesWrongFalsely : Prop := fnExactPairTablesRow.holds Try.pinned (OpenSpec.ofChange fnExactPairTablesWrong)

/-- 'laws.FnExactSumTables': WHATEVER THE INPUT: true; the input reads as it did. -/
def fnExactSumTablesSpec : ChangeSpec := { name := "fnExactSumTables", fn := fun _ => fun
  | [d1, d2] => { results := [.lit (.bool true)], args := [d1, d2] }
  | _ => none }
def fnExactSumTablesRow : OpenClaim := { program := "ytdahdeohmbadhaa", sum := "455afb6207b3f7335d187b41918d4957340e35148d4efb6332a1118f00793794", func := "loop.example/g01117/laws.FnExactSumTables", spec := "fnExactSumTables", unfollowed := true, recurses := true, apart := false }
def FnExactSumTablesSaid : Prop := fnExactSumTablesRow.holds Try.pinned (OpenSpec.ofChange fnExactSumTablesSpec)

/-- ITS FALSE NEIGHBOUR: 'it returns false'. Refute it at one input. -/
def fnExactSumTablesWrong : ChangeSpec := { name := "fnExactSumTables", fn := fun _ => fun
  | [d1, d2] => { results := [.lit (.bool false)], args := [d1, d2] }
  | _ => none }
def FnExactSumTablesWrongFalsely : Prop := fnExactSumTablesRow.holds Try.pinned (OpenSpec.ofChange fnExactSumTablesWrong)

/-- 'laws.FnExactJoinTables': WHATEVER THE INPUT: true; the input reads as it did. -/
def fnExactJoinTablesSpec : ChangeSpec := { name := "fnExactJoinTables", fn := fun _ => fun
  | [d1, d2] => { results := [.lit (.bool true)], args := [d1, d2] }
  | _ => none }
def fnExactJoinTablesRow : OpenClaim := { program := "ytdahdeohmbadhaa", sum := "455afb6207b3f7335d187b41918d4957340e35148d4efb6332a1118f00793794", func := "loop.example/g01117/laws.FnExactJoinTables", spec := "fnExactJoinTables", unfollowed := true, recurses := true, apart := false }
def FnExactJoinTablesSaid : Prop := fnExactJoinTablesRow.holds Try.pinned (OpenSpec.ofChange fnExactJoinTablesSpec)

/-- ITS FALSE NEIGHBOUR: 'it returns false'. Refute it at one input. -/
def fnExactJoinTablesWrong : ChangeSpec := { name := "fnExactJoinTables", fn := fun _ => fun
  | [d1, d2] => { results := [.lit (.bool false)], args := [d1, d2] }
  | _ => none }
def FnExactJoinTablesWrongFalsely : Prop := fnExactJoinTablesRow.holds Try.pinned (OpenSpec.ofChange fnExactJoinTablesWrong)

/-- 'laws.FnExactRenameColumns': WHATEVER THE INPUT: true; the input reads as it did. -/
def fnExactRenameColumnsSpec : ChangeSpec := { name := "fnExactRenameColumns", fn := fun _ => fun
  | [d1, d2] => { results := [.lit (.bool true)], args := [d1, d2] }
  | _ => none }
def fnExactRenameColumnsRow : OpenClaim := { program := "ytdahdeohmbadhaa", sum := "455afb6207b3f7335d187b41918d4957340e35148d4efb6332a1118f00793794", func := "loop.example/g01117/laws.FnExactRenameColumns", spec := "fnExactRenameColumns", unfollowed := true, recurses := true, apart := false }
def FnExactRenameColumnsSaid : Prop := fnExactRenameColumnsRow.holds Try.pinned (OpenSpec.ofChange fnExactRenameColumnsSpec)

/-- ITS FALSE NEIGHBOUR: 'it returns false'. Refute it at one input. -/
def fnExactRenameColumnsWrong : ChangeSpec := { name := "fnExactRenameColumns", fn := fun _ => fun
  | [d1, d2] => { results := [.lit (.bool false)], args := [d1, d2] }
  | _ => none }
def FnExactRenameColumnsWrongFalsely : Prop := fnExactRenameColumnsRow.holds Try.pinned (OpenSpec.ofChange fnExactRenameColumnsWrong)

/-- 'laws.FnExactCurveTable': WHATEVER THE INPUT: true; the input reads as it did. -/
def fnExactCurveTableSpec : ChangeSpec := { name := "fnExactCurveTable", fn := fun _ => fun
  | [d1, d2, d3] => { results := [.lit (.bool true)], args := [d1, d2, d3] }
  | _ => none }
def fnExactCurveTableRow : OpenClaim := { program := "ytdahdeohmbadhaa", sum := "455afb6207b3f7335d187b41918d4957340e35148d4efb6332a1118f00793794", func := "loop.example/g01117/laws.FnExactCurveTable", spec := "fnExactCurveTable", unfollowed := true, recurses := true, apart := false }
def FnExactCurveTableSaid : Prop := fnExactCurveTableRow.holds Try.pinned (OpenSpec.ofChange fnExactCurveTableSpec)

/-- ITS FALSE NEIGHBOUR: 'it returns false'. Refute it at one input. -/
def fnExactCurveTableWrong : ChangeSpec := { name := "fnExactCurveTable", fn := fun _ => fun
  | [d1, d2, d3] => { results := [.lit (.bool false)], args := [d1, d2, d3] }
  | _ => none }
def FnExactCurveTableWrongFalsely : Prop := fnExactCurveTableRow.holds Try.pinned (OpenSpec.ofChange fnExactCurveTableWrong)

/-- 'laws.FnExactFamilyTable': WHATEVER THE INPUT: true; the input reads as it did. -/
def fnExactFamilyTableSpec : ChangeSpec := { name := "fnExactFamilyTable", fn := fun _ => fun
  | [d1, d2] => { results := [.lit (.bool true)], args := [d1, d2] }
  | _ => none }
def fnExactFamilyTableRow : OpenClaim := { program := "ytdahdeohmbadhaa", sum := "455afb6207b3f7335d187b41918d4957340e35148d4efb6332a1118f00793794", func := "loop.example/g01117/laws.FnExactFamilyTable", spec := "fnExactFamilyTable", unfollowed := true, recurses := true, apart := false }
def FnExactFamilyTableSaid : Prop := fnExactFamilyTableRow.holds Try.pinned (OpenSpec.ofChange fnExactFamilyTableSpec)

/-- ITS FALSE NEIGHBOUR: 'it returns false'. Refute it at one input. -/
def fnExactFamilyTableWrong : ChangeSpec := { name := "fnExactFamilyTable", fn := fun _ => fun
  | [d1, d2] => { results := [.lit (.bool false)], args := [d1, d2] }
  | _ => none }
def FnExactFamilyTableWrongFalsely : Prop := fnExactFamilyTableRow.holds Try.pinned (OpenSpec.ofChange fnExactFamilyTableWrong)

/-- 'laws.FnExactSchemeTable': WHATEVER THE INPUT: true; the input reads as it did. -/
def fnExactSchemeTableSpec : ChangeSpec := { name := "fnExactSchemeTable", fn := fun _ => fun
  | [d] => { results := [.lit (.bool true)], args := [d] }
  | _ => none }
def fnExactSchemeTableRow : OpenClaim := { program := "ytdahdeohmbadhaa", sum := "455afb6207b3f7335d187b41918d4957340e35148d4efb6332a1118f00793794", func := "loop.example/g01117/laws.FnExactSchemeTable", spec := "fnExactSchemeTable", unfollowed := true, recurses := true, apart := false }
def FnExactSchemeTableSaid : Prop := fnExactSchemeTableRow.holds Try.pinned (OpenSpec.ofChange fnExactSchemeTableSpec)

/-- ITS FALSE NEIGHBOUR: 'it returns false'. Refute it at one input. -/
def fnExactSchemeTableWrong : ChangeSpec := { name := "fnExactSchemeTable", fn := fun _ => fun
  | [d] => { results := [.lit (.bool false)], args := [d] }
  | _ => none }
def FnExactSchemeTableWrongFalsely : Prop := fnExactSchemeTableRow.holds Try.pinned (OpenSpec.ofChange fnExactSchemeTableWrong)

/-- 'laws.FnExactTableFamily': WHATEVER THE INPUT: true; the input reads as it did. -/
def fnExactTableFamilySpec : ChangeSpec := { name := "fnExactTableFamily", fn := fun _ => fun
  | [d] => { results := [.lit (.bool true)], args := [d] }
  | _ => none }
def fnExactTableFamilyRow : OpenClaim := { program := "ytdahdeohmbadhaa", sum := "455afb6207b3f7335d187b41918d4957340e35148d4efb6332a1118f00793794", func := "loop.example/g01117/laws.FnExactTableFamily", spec := "fnExactTableFamily", inPlace := ["slices.overlaps[loop.example/g01117/impl.sight]"], unfollowed := true, recurses := true, apart := false }
def FnExactTableFamilySaid : Prop := fnExactTableFamilyRow.holds Try.pinned (OpenSpec.ofChange fnExactTableFamilySpec)

/-- ITS FALSE NEIGHBOUR: 'it returns false'. Refute it at one input. -/
def fnExactTableFamilyWrong : ChangeSpec := { name := "fnExactTableFamily", fn := fun _ => fun
  | [d] => { results := [.lit (.bool false)], args := [d] }
  | _ => none }
def FnExactTableFamilyWrongFalsely : Prop := fnExactTableFamilyRow.holds Try.pinned (OpenSpec.ofChange fnExactTableFamilyWrong)

/-- 'laws.FnExactIsPerfect': WHATEVER THE INPUT: true; the input reads as it did. -/
def fnExactIsPerfectSpec : ChangeSpec := { name := "fnExactIsPerfect", fn := fun _ => fun
  | [d] => { results := [.lit (.bool true)], args := [d] }
  | _ => none }
def fnExactIsPerfectRow : OpenClaim := { program := "ytdahdeohmbadhaa", sum := "455afb6207b3f7335d187b41918d4957340e35148d4efb6332a1118f00793794", func := "loop.example/g01117/laws.FnExactIsPerfect", spec := "fnExactIsPerfect", inPlace := ["slices.overlaps[loop.example/g01117/impl.sight]"], unfollowed := true, recurses := true, apart := false }
def FnExactIsPerfectSaid : Prop := fnExactIsPerfectRow.holds Try.pinned (OpenSpec.ofChange fnExactIsPerfectSpec)

/-- ITS FALSE NEIGHBOUR: 'it returns false'. Refute it at one input. -/
def fnExactIsPerfectWrong : ChangeSpec := { name := "fnExactIsPerfect", fn := fun _ => fun
  | [d] => { results := [.lit (.bool false)], args := [d] }
  | _ => none }
def FnExactIsPerfectWrongFalsely : Prop := fnExactIsPerfectRow.holds Try.pinned (OpenSpec.ofChange fnExactIsPerfectWrong)

/- THE SECOND FORM. 'bulk': how many values and letters a reading holds, each counted each time it is reached (what is shared counts as often as it is met; a slice's spare places count too). A statement '..UptoSaid' is the law's where the arguments, and the package variables that the reading takes, are together of bulk at most 1048576: NARROWER than '..Said'. Prove '..Said' where nothing that the law and all that it calls make is longer than what came in: it says more and counts as full. Else prove '..UptoSaid'. A law counts once. -/
mutual
def uptoBulk {H : Type} : DataW H → Nat
  | .lit (.string bytes) => bytes.length + 1
  | .lit _ => 1
  | .nil => 1
  | .ptr d => uptoBulk d + 1
  | .slice elems spare => uptoBulkAll elems + uptoBulkAll spare + 1
  | .agg parts => uptoBulkAll parts + 1
  | .iface _ d => uptoBulk d + 1
  | .map entries => uptoBulkEntries entries + 1
  | .held _ => 1
def uptoBulkAll {H : Type} : List (DataW H) → Nat
  | [] => 0
  | d :: r => uptoBulk d + uptoBulkAll r
def uptoBulkEntries {H : Type} : List (Lit × DataW H) → Nat
  | [] => 0
  | x :: r => uptoBulkEntry x + uptoBulkEntries r
def uptoBulkEntry {H : Type} : Lit × DataW H → Nat
  | (.string bytes, d) => bytes.length + uptoBulk d + 1
  | (_, d) => uptoBulk d + 1
 end
def uptoSmall : (H : Type) → List (DataW H) → Bool := fun _ ds => decide (uptoBulkAll ds ≤ 1048576)
def OpenSpec.upto (s : _root_.Go.ChangeSpec) : _root_.Go.OpenSpec := { _root_.Go.OpenSpec.ofChange s with cond := some uptoSmall }

/-- 'laws.FnExactGatherTable', WHERE WHAT IT READS IS OF BULK AT MOST 1048576: true; the input reads as it did. -/
def fnExactGatherTableUptoRow : OpenClaim := { program := "ytdahdeohmbadhaa", sum := "455afb6207b3f7335d187b41918d4957340e35148d4efb6332a1118f00793794", func := "loop.example/g01117/laws.FnExactGatherTable", spec := "fnExactGatherTable", unfollowed := true, recurses := true, apart := false, narrowed := true }
def FnExactGatherTableUptoSaid : Prop := fnExactGatherTableUptoRow.holds Try.pinned (OpenSpec.upto fnExactGatherTableSpec)

/-- 'laws.FnExactDropColumn', WHERE WHAT IT READS IS OF BULK AT MOST 1048576: true; the input reads as it did. -/
def fnExactDropColumnUptoRow : OpenClaim := { program := "ytdahdeohmbadhaa", sum := "455afb6207b3f7335d187b41918d4957340e35148d4efb6332a1118f00793794", func := "loop.example/g01117/laws.FnExactDropColumn", spec := "fnExactDropColumn", unfollowed := true, recurses := true, apart := false, narrowed := true }
def FnExactDropColumnUptoSaid : Prop := fnExactDropColumnUptoRow.holds Try.pinned (OpenSpec.upto fnExactDropColumnSpec)

/-- 'laws.FnExactFixColumn', WHERE WHAT IT READS IS OF BULK AT MOST 1048576: true; the input reads as it did. -/
def fnExactFixColumnUptoRow : OpenClaim := { program := "ytdahdeohmbadhaa", sum := "455afb6207b3f7335d187b41918d4957340e35148d4efb6332a1118f00793794", func := "loop.example/g01117/laws.FnExactFixColumn", spec := "fnExactFixColumn", unfollowed := true, recurses := true, apart := false, narrowed := true }
def FnExactFixColumnUptoSaid : Prop := fnExactFixColumnUptoRow.holds Try.pinned (OpenSpec.upto fnExactFixColumnSpec)

/-- 'laws.FnExactPairTables', WHERE WHAT IT READS IS OF BULK AT MOST 1048576: true; the input reads as it did. -/
def fnExactPairTablesUptoRow : OpenClaim := { program := "ytdahdeohmbadhaa", sum := "455afb6207b3f7335d187b41918d4957340e35148d4efb6332a1118f00793794", func := "loop.example/g01117/laws.FnExactPairTables", spec := "fnExactPairTables", unfollowed := true, recurses := true, apart := false, narrowed := true }
def FnExactPairTablesUptoSaid : Prop := fnExactPairTablesUptoRow.holds Try.pinned (OpenSpec.upto fnExactPairTablesSpec)

/-- 'laws.FnExactSumTables', WHERE WHAT IT READS IS OF BULK AT MOST 1048576: true; the input reads as it did. -/
def fnExactSumTablesUptoRow : OpenClaim := { program := "ytdahdeohmbadhaa", sum := "455afb6207b3f7335d187b41918d4957340e35148d4efb6332a1118f00793794", func := "loop.example/g01117/laws.FnExactSumTables", spec := "fnExactSumTables", unfollowed := true, recurses := true, apart := false, narrowed := true }
def FnExactSumTablesUptoSaid : Prop := fnExactSumTablesUptoRow.holds Try.pinned (OpenSpec.upto fnExactSumTablesSpec)

/-- 'laws.FnExactJoinTables', WHERE WHAT IT READS IS OF BULK AT MOST 1048576: true; the input reads as it did. -/
def fnExactJoinTablesUptoRow : OpenClaim := { program := "ytdahdeohmbadhaa", sum := "455afb6207b3f7335d187b41918d4957340e35148d4efb6332a1118f00793794", func := "loop.example/g01117/laws.FnExactJoinTables", spec := "fnExactJoinTables", unfollowed := true, recurses := true, apart := false, narrowed := true }
def FnExactJoinTablesUptoSaid : Prop := fnExactJoinTablesUptoRow.holds Try.pinned (OpenSpec.upto fnExactJoinTablesSpec)

/-- 'laws.FnExactRenameColumns', WHERE WHAT IT READS IS OF BULK AT MOST 1048576: true; the input reads as it did. -/
def fnExactRenameColumnsUptoRow : OpenClaim := { program := "ytdahdeohmbadhaa", sum := "455afb6207b3f7335d187b41918d4957340e35148d4efb6332a1118f00793794", func := "loop.example/g01117/laws.FnExactRenameColumns", spec := "fnExactRenameColumns", unfollowed := true, recurses := true, apart := false, narrowed := true }
def FnExactRenameColumnsUptoSaid : Prop := fnExactRenameColumnsUptoRow.holds Try.pinned (OpenSpec.upto fnExactRenameColumnsSpec)

/-- 'laws.FnExactCurveTable', WHERE WHAT IT READS IS OF BULK AT MOST 1048576: true; the input reads as it did. -/
def fnExactCurveTableUptoRow : OpenClaim := { program := "ytdahdeohmbadhaa", sum := "455afb6207b3f7335d187b41918d4957340e35148d4efb6332a1118f00793794", func := "loop.example/g01117/laws.FnExactCurveTable", spec := "fnExactCurveTable", unfollowed := true, recurses := true, apart := false, narrowed := true }
def FnExactCurveTableUptoSaid : Prop := fnExactCurveTableUptoRow.holds Try.pinned (OpenSpec.upto fnExactCurveTableSpec)

/-- 'laws.FnExactFamilyTable', WHERE WHAT IT READS IS OF BULK AT MOST 1048576: true; the input reads as it did. -/
def fnExactFamilyTableUptoRow : OpenClaim := { program := "ytdahdeohmbadhaa", sum := "455afb6207b3f7335d187b41918d4957340e35148d4efb6332a1118f00793794", func := "loop.example/g01117/laws.FnExactFamilyTable", spec := "fnExactFamilyTable", unfollowed := true, recurses := true, apart := false, narrowed := true }
def FnExactFamilyTableUptoSaid : Prop := fnExactFamilyTableUptoRow.holds Try.pinned (OpenSpec.upto fnExactFamilyTableSpec)

/-- 'laws.FnExactSchemeTable', WHERE WHAT IT READS IS OF BULK AT MOST 1048576: true; the input reads as it did. -/
def fnExactSchemeTableUptoRow : OpenClaim := { program := "ytdahdeohmbadhaa", sum := "455afb6207b3f7335d187b41918d4957340e35148d4efb6332a1118f00793794", func := "loop.example/g01117/laws.FnExactSchemeTable", spec := "fnExactSchemeTable", unfollowed := true, recurses := true, apart := false, narrowed := true }
def FnExactSchemeTableUptoSaid : Prop := fnExactSchemeTableUptoRow.holds Try.pinned (OpenSpec.upto fnExactSchemeTableSpec)

/-- 'laws.FnExactTableFamily', WHERE WHAT IT READS IS OF BULK AT MOST 1048576: true; the input reads as it did. -/
def fnExactTableFamilyUptoRow : OpenClaim := { program := "ytdahdeohmbadhaa", sum := "455afb6207b3f7335d187b41918d4957340e35148d4efb6332a1118f00793794", func := "loop.example/g01117/laws.FnExactTableFamily", spec := "fnExactTableFamily", inPlace := ["slices.overlaps[loop.example/g01117/impl.sight]"], unfollowed := true, recurses := true, apart := false, narrowed := true }
def FnExactTableFamilyUptoSaid : Prop := fnExactTableFamilyUptoRow.holds Try.pinned (OpenSpec.upto fnExactTableFamilySpec)

/-- 'laws.FnExactIsPerfect', WHERE WHAT IT READS IS OF BULK AT MOST 1048576: true; the input reads as it did. -/
def fnExactIsPerfectUptoRow : OpenClaim := { program := "ytdahdeohmbadhaa", sum := "455afb6207b3f7335d187b41918d4957340e35148d4efb6332a1118f00793794", func := "loop.example/g01117/laws.FnExactIsPerfect", spec := "fnExactIsPerfect", inPlace := ["slices.overlaps[loop.example/g01117/impl.sight]"], unfollowed := true, recurses := true, apart := false, narrowed := true }
def FnExactIsPerfectUptoSaid : Prop := fnExactIsPerfectUptoRow.holds Try.pinned (OpenSpec.upto fnExactIsPerfectSpec)

end Rows
end Go.Proofs.Ytdahdeohmbadhaa
