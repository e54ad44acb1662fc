/-
  No cell of these rows narrows 'for every input' (looked for: loops, veiled, ifaces, maps, wideKeys, modest, calm, conditions, laid).
  DERIVED. THE GIVEN ROWS OF THIS SEAT. 9 by the template 'for every input the law returns true; each argument reads behind the call as it read before'; 0 by the template 'total and deterministic' (their statements: YtppbmhlmbepneaaTotals.lean).
  GIVEN WITH THE SEED: the statements are not yours to turn. If you find one false, say at which input.
  Laid BY PROGRAM, IN A SANDBOX (cutbox-rows.mjs): the forced cells as the released guide's own fill.sh prints them over the translation fcc620865d6b2379… (all of the seat's roots in one cut). By AI agents, Wed Nov 11 2026. No macro, syntax, notation, axiom, sorry.
-/
import Derived.Test.YtppbmhlmbepneaaChecked
import GoSem.Claim
import GoSem.ClaimJoined
import GoSem.ClaimMapViews
import Derived.JoinedTies
import Derived.KernelRfl
namespace Go.Proofs.Ytppbmhlmbepneaa
/- THE CELL 'sum', in the pinned program and in every row, IS THE sha256 OF THE DUMP (.gsa) THAT YtppbmhlmbepneaaProg.lean LOADS. Nothing in Lean hashes anything: it is a label: what it is worth is what the hold of that sum in a sandbox is worth. -/
noncomputable def Try.pinned : Pinned := { name := "ytppbmhlmbepneaa", sum := "fcc620865d6b23798b01500194d0c268b179e16f84c7aae6eee41d0b3ec82ff4", checked := Try.checked }
namespace Rows
def none {H : Type} : Left H := { results := [], args := [] }

/-- 'laws.FnIndexOf': WHATEVER THE INPUT: true; the input reads as it did. -/
def fnIndexOfSpec : ChangeSpec := { name := "fnIndexOf", fn := fun _ => fun
  | [d] => { results := [.lit (.bool true)], args := [d] }
  | _ => none }
def fnIndexOfRow : OpenClaim := { program := "ytppbmhlmbepneaa", sum := "fcc620865d6b23798b01500194d0c268b179e16f84c7aae6eee41d0b3ec82ff4", func := "loop.example/schemamigration/laws.FnIndexOf", spec := "fnIndexOf", unfollowed := true, recurses := true, apart := false }
def FnIndexOfSaid : Prop := fnIndexOfRow.holds Try.pinned (OpenSpec.ofChange fnIndexOfSpec)

/-- ITS FALSE NEIGHBOUR: 'it returns false'. Refute it at one input. -/
def fnIndexOfWrong : ChangeSpec := { name := "fnIndexOf", fn := fun _ => fun
  | [d] => { results := [.lit (.bool false)], args := [d] }
  | _ => none }
def FnIndexOfWrongFalsely : Prop := fnIndexOfRow.holds Try.pinned (OpenSpec.ofChange fnIndexOfWrong)

/-- 'laws.FnRowsAfter': WHATEVER THE INPUT: true; the input reads as it did. -/
def fnRowsAfterSpec : ChangeSpec := { name := "fnRowsAfter", fn := fun _ => fun
  | [d] => { results := [.lit (.bool true)], args := [d] }
  | _ => none }
def fnRowsAfterRow : OpenClaim := { program := "ytppbmhlmbepneaa", sum := "fcc620865d6b23798b01500194d0c268b179e16f84c7aae6eee41d0b3ec82ff4", func := "loop.example/schemamigration/laws.FnRowsAfter", spec := "fnRowsAfter", inPlace := ["slices.overlaps[loop.example/schemamigration/impl.Item]"], unfollowed := true, recurses := true, apart := false }
def FnRowsAfterSaid : Prop := fnRowsAfterRow.holds Try.pinned (OpenSpec.ofChange fnRowsAfterSpec)

/-- ITS FALSE NEIGHBOUR: 'it returns false'. Refute it at one input. -/
def fnRowsAfterWrong : ChangeSpec := { name := "fnRowsAfter", fn := fun _ => fun
  | [d] => { results := [.lit (.bool false)], args := [d] }
  | _ => none }
def FnRowsAfterWrongFalsely : Prop := fnRowsAfterRow.holds Try.pinned (OpenSpec.ofChange fnRowsAfterWrong)

/-- 'laws.FnRowsAfterLast': WHATEVER THE INPUT: true; the input reads as it did. -/
def fnRowsAfterLastSpec : ChangeSpec := { name := "fnRowsAfterLast", fn := fun _ => fun
  | [d] => { results := [.lit (.bool true)], args := [d] }
  | _ => none }
def fnRowsAfterLastRow : OpenClaim := { program := "ytppbmhlmbepneaa", sum := "fcc620865d6b23798b01500194d0c268b179e16f84c7aae6eee41d0b3ec82ff4", func := "loop.example/schemamigration/laws.FnRowsAfterLast", spec := "fnRowsAfterLast", inPlace := ["slices.overlaps[loop.example/schemamigration/impl.Item]"], unfollowed := true, recurses := true, apart := false }
def FnRowsAfterLastSaid : Prop := fnRowsAfterLastRow.holds Try.pinned (OpenSpec.ofChange fnRowsAfterLastSpec)

/-- ITS FALSE NEIGHBOUR: 'it returns false'. Refute it at one input. -/
def fnRowsAfterLastWrong : ChangeSpec := { name := "fnRowsAfterLast", fn := fun _ => fun
  | [d] => { results := [.lit (.bool false)], args := [d] }
  | _ => none }
def FnRowsAfterLastWrongFalsely : Prop := fnRowsAfterLastRow.holds Try.pinned (OpenSpec.ofChange fnRowsAfterLastWrong)

/-- 'laws.FnSideOf': WHATEVER THE INPUT: true; the input reads as it did. -/
def fnSideOfSpec : ChangeSpec := { name := "fnSideOf", fn := fun _ => fun
  | [d] => { results := [.lit (.bool true)], args := [d] }
  | _ => none }
def fnSideOfRow : OpenClaim := { program := "ytppbmhlmbepneaa", sum := "fcc620865d6b23798b01500194d0c268b179e16f84c7aae6eee41d0b3ec82ff4", func := "loop.example/schemamigration/laws.FnSideOf", spec := "fnSideOf", inPlace := ["slices.overlaps[loop.example/schemamigration/impl.Item]"], unfollowed := true, recurses := true, apart := false }
def FnSideOfSaid : Prop := fnSideOfRow.holds Try.pinned (OpenSpec.ofChange fnSideOfSpec)

/-- ITS FALSE NEIGHBOUR: 'it returns false'. Refute it at one input. -/
def fnSideOfWrong : ChangeSpec := { name := "fnSideOf", fn := fun _ => fun
  | [d] => { results := [.lit (.bool false)], args := [d] }
  | _ => none }
def FnSideOfWrongFalsely : Prop := fnSideOfRow.holds Try.pinned (OpenSpec.ofChange fnSideOfWrong)

/-- 'laws.FnDrainSide': WHATEVER THE INPUT: true; the input reads as it did. -/
def fnDrainSideSpec : ChangeSpec := { name := "fnDrainSide", fn := fun _ => fun
  | [d] => { results := [.lit (.bool true)], args := [d] }
  | _ => none }
def fnDrainSideRow : OpenClaim := { program := "ytppbmhlmbepneaa", sum := "fcc620865d6b23798b01500194d0c268b179e16f84c7aae6eee41d0b3ec82ff4", func := "loop.example/schemamigration/laws.FnDrainSide", spec := "fnDrainSide", inPlace := ["slices.overlaps[loop.example/schemamigration/impl.Item]"], unfollowed := true, recurses := true, apart := false }
def FnDrainSideSaid : Prop := fnDrainSideRow.holds Try.pinned (OpenSpec.ofChange fnDrainSideSpec)

/-- ITS FALSE NEIGHBOUR: 'it returns false'. Refute it at one input. -/
def fnDrainSideWrong : ChangeSpec := { name := "fnDrainSide", fn := fun _ => fun
  | [d] => { results := [.lit (.bool false)], args := [d] }
  | _ => none }
def FnDrainSideWrongFalsely : Prop := fnDrainSideRow.holds Try.pinned (OpenSpec.ofChange fnDrainSideWrong)

/-- 'laws.FnBuildOnline': WHATEVER THE INPUT: true; the input reads as it did. -/
def fnBuildOnlineSpec : ChangeSpec := { name := "fnBuildOnline", fn := fun _ => fun
  | [d] => { results := [.lit (.bool true)], args := [d] }
  | _ => none }
def fnBuildOnlineRow : OpenClaim := { program := "ytppbmhlmbepneaa", sum := "fcc620865d6b23798b01500194d0c268b179e16f84c7aae6eee41d0b3ec82ff4", func := "loop.example/schemamigration/laws.FnBuildOnline", spec := "fnBuildOnline", inPlace := ["slices.overlaps[loop.example/schemamigration/impl.Item]"], unfollowed := true, recurses := true, apart := false }
def FnBuildOnlineSaid : Prop := fnBuildOnlineRow.holds Try.pinned (OpenSpec.ofChange fnBuildOnlineSpec)

/-- ITS FALSE NEIGHBOUR: 'it returns false'. Refute it at one input. -/
def fnBuildOnlineWrong : ChangeSpec := { name := "fnBuildOnline", fn := fun _ => fun
  | [d] => { results := [.lit (.bool false)], args := [d] }
  | _ => none }
def FnBuildOnlineWrongFalsely : Prop := fnBuildOnlineRow.holds Try.pinned (OpenSpec.ofChange fnBuildOnlineWrong)

/-- 'laws.FnBuildOnlineScans': WHATEVER THE INPUT: true; the input reads as it did. -/
def fnBuildOnlineScansSpec : ChangeSpec := { name := "fnBuildOnlineScans", fn := fun _ => fun
  | [d] => { results := [.lit (.bool true)], args := [d] }
  | _ => none }
def fnBuildOnlineScansRow : OpenClaim := { program := "ytppbmhlmbepneaa", sum := "fcc620865d6b23798b01500194d0c268b179e16f84c7aae6eee41d0b3ec82ff4", func := "loop.example/schemamigration/laws.FnBuildOnlineScans", spec := "fnBuildOnlineScans", inPlace := ["slices.overlaps[loop.example/schemamigration/impl.Item]"], unfollowed := true, recurses := true, apart := false }
def FnBuildOnlineScansSaid : Prop := fnBuildOnlineScansRow.holds Try.pinned (OpenSpec.ofChange fnBuildOnlineScansSpec)

/-- ITS FALSE NEIGHBOUR: 'it returns false'. Refute it at one input. -/
def fnBuildOnlineScansWrong : ChangeSpec := { name := "fnBuildOnlineScans", fn := fun _ => fun
  | [d] => { results := [.lit (.bool false)], args := [d] }
  | _ => none }
def FnBuildOnlineScansWrongFalsely : Prop := fnBuildOnlineScansRow.holds Try.pinned (OpenSpec.ofChange fnBuildOnlineScansWrong)

/-- 'laws.FnCanBeUnique': WHATEVER THE INPUT: true; the input reads as it did. -/
def fnCanBeUniqueSpec : ChangeSpec := { name := "fnCanBeUnique", fn := fun _ => fun
  | [d] => { results := [.lit (.bool true)], args := [d] }
  | _ => none }
def fnCanBeUniqueRow : OpenClaim := { program := "ytppbmhlmbepneaa", sum := "fcc620865d6b23798b01500194d0c268b179e16f84c7aae6eee41d0b3ec82ff4", func := "loop.example/schemamigration/laws.FnCanBeUnique", spec := "fnCanBeUnique", inPlace := ["slices.overlaps[loop.example/schemamigration/impl.Item]"], unfollowed := true, recurses := true, apart := false }
def FnCanBeUniqueSaid : Prop := fnCanBeUniqueRow.holds Try.pinned (OpenSpec.ofChange fnCanBeUniqueSpec)

/-- ITS FALSE NEIGHBOUR: 'it returns false'. Refute it at one input. -/
def fnCanBeUniqueWrong : ChangeSpec := { name := "fnCanBeUnique", fn := fun _ => fun
  | [d] => { results := [.lit (.bool false)], args := [d] }
  | _ => none }
def FnCanBeUniqueWrongFalsely : Prop := fnCanBeUniqueRow.holds Try.pinned (OpenSpec.ofChange fnCanBeUniqueWrong)

/-- 'laws.FnFirstClash': WHATEVER THE INPUT: true; the input reads as it did. -/
def fnFirstClashSpec : ChangeSpec := { name := "fnFirstClash", fn := fun _ => fun
  | [d] => { results := [.lit (.bool true)], args := [d] }
  | _ => none }
def fnFirstClashRow : OpenClaim := { program := "ytppbmhlmbepneaa", sum := "fcc620865d6b23798b01500194d0c268b179e16f84c7aae6eee41d0b3ec82ff4", func := "loop.example/schemamigration/laws.FnFirstClash", spec := "fnFirstClash", inPlace := ["slices.overlaps[loop.example/schemamigration/impl.Item]"], unfollowed := true, recurses := true, apart := false }
def FnFirstClashSaid : Prop := fnFirstClashRow.holds Try.pinned (OpenSpec.ofChange fnFirstClashSpec)

/-- ITS FALSE NEIGHBOUR: 'it returns false'. Refute it at one input. -/
def fnFirstClashWrong : ChangeSpec := { name := "fnFirstClash", fn := fun _ => fun
  | [d] => { results := [.lit (.bool false)], args := [d] }
  | _ => none }
def FnFirstClashWrongFalsely : Prop := fnFirstClashRow.holds Try.pinned (OpenSpec.ofChange fnFirstClashWrong)

/- THE SECOND FORM. 'bulk': how many values and letters a reading holds, each counted each time it is reached (what is shared counts as often as it is met; a slice's spare places count too). A statement '..UptoSaid' is the law's where the arguments, and the package variables that the reading takes, are together of bulk at most 1048576: NARROWER than '..Said'. Prove '..Said' where nothing that the law and all that it calls make is longer than what came in: it says more and counts as full. Else prove '..UptoSaid'. A law counts once. -/
mutual
def uptoBulk {H : Type} : DataW H → Nat
  | .lit (.string bytes) => bytes.length + 1
  | .lit _ => 1
  | .nil => 1
  | .ptr d => uptoBulk d + 1
  | .slice elems spare => uptoBulkAll elems + uptoBulkAll spare + 1
  | .agg parts => uptoBulkAll parts + 1
  | .iface _ d => uptoBulk d + 1
  | .map entries => uptoBulkEntries entries + 1
  | .held _ => 1
def uptoBulkAll {H : Type} : List (DataW H) → Nat
  | [] => 0
  | d :: r => uptoBulk d + uptoBulkAll r
def uptoBulkEntries {H : Type} : List (Lit × DataW H) → Nat
  | [] => 0
  | x :: r => uptoBulkEntry x + uptoBulkEntries r
def uptoBulkEntry {H : Type} : Lit × DataW H → Nat
  | (.string bytes, d) => bytes.length + uptoBulk d + 1
  | (_, d) => uptoBulk d + 1
 end
def uptoSmall : (H : Type) → List (DataW H) → Bool := fun _ ds => decide (uptoBulkAll ds ≤ 1048576)
def OpenSpec.upto (s : _root_.Go.ChangeSpec) : _root_.Go.OpenSpec := { _root_.Go.OpenSpec.ofChange s with cond := some uptoSmall }

/-- 'laws.FnIndexOf', WHERE WHAT IT READS IS OF BULK AT MOST 1048576: true; the input reads as it did. -/
def fnIndexOfUptoRow : OpenClaim := { program := "ytppbmhlmbepneaa", sum := "fcc620865d6b23798b01500194d0c268b179e16f84c7aae6eee41d0b3ec82ff4", func := "loop.example/schemamigration/laws.FnIndexOf", spec := "fnIndexOf", unfollowed := true, recurses := true, apart := false, narrowed := true }
def FnIndexOfUptoSaid : Prop := fnIndexOfUptoRow.holds Try.pinned (OpenSpec.upto fnIndexOfSpec)

/-- 'laws.FnRowsAfter', WHERE WHAT IT READS IS OF BULK AT MOST 1048576: true; the input reads as it did. -/
def fnRowsAfterUptoRow : OpenClaim := { program := "ytppbmhlmbepneaa", sum := "fcc620865d6b23798b01500194d0c268b179e16f84c7aae6eee41d0b3ec82ff4", func := "loop.example/schemamigration/laws.FnRowsAfter", spec := "fnRowsAfter", inPlace := ["slices.overlaps[loop.example/schemamigration/impl.Item]"], unfollowed := true, recurses := true, apart := false, narrowed := true }
def FnRowsAfterUptoSaid : Prop := fnRowsAfterUptoRow.holds Try.pinned (OpenSpec.upto fnRowsAfterSpec)

/-- 'laws.FnRowsAfterLast', WHERE WHAT IT READS IS OF BULK AT MOST 1048576: true; the input reads as it did. -/
def fnRowsAfterLastUptoRow : OpenClaim := { program := "ytppbmhlmbepneaa", sum := "fcc620865d6b23798b01500194d0c268b179e16f84c7aae6eee41d0b3ec82ff4", func := "loop.example/schemamigration/laws.FnRowsAfterLast", spec := "fnRowsAfterLast", inPlace := ["slices.overlaps[loop.example/schemamigration/impl.Item]"], unfollowed := true, recurses := true, apart := false, narrowed := true }
def FnRowsAfterLastUptoSaid : Prop := fnRowsAfterLastUptoRow.holds Try.pinned (OpenSpec.upto fnRowsAfterLastSpec)

/-- 'laws.FnSideOf', WHERE WHAT IT READS IS OF BULK AT MOST 1048576: true; the input reads as it did. -/
def fnSideOfUptoRow : OpenClaim := { program := "ytppbmhlmbepneaa", sum := "fcc620865d6b23798b01500194d0c268b179e16f84c7aae6eee41d0b3ec82ff4", func := "loop.example/schemamigration/laws.FnSideOf", spec := "fnSideOf", inPlace := ["slices.overlaps[loop.example/schemamigration/impl.Item]"], unfollowed := true, recurses := true, apart := false, narrowed := true }
def FnSideOfUptoSaid : Prop := fnSideOfUptoRow.holds Try.pinned (OpenSpec.upto fnSideOfSpec)

/-- 'laws.FnDrainSide', WHERE WHAT IT READS IS OF BULK AT MOST 1048576: true; the input reads as it did. -/
def fnDrainSideUptoRow : OpenClaim := { program := "ytppbmhlmbepneaa", sum := "fcc620865d6b23798b01500194d0c268b179e16f84c7aae6eee41d0b3ec82ff4", func := "loop.example/schemamigration/laws.FnDrainSide", spec := "fnDrainSide", inPlace := ["slices.overlaps[loop.example/schemamigration/impl.Item]"], unfollowed := true, recurses := true, apart := false, narrowed := true }
def FnDrainSideUptoSaid : Prop := fnDrainSideUptoRow.holds Try.pinned (OpenSpec.upto fnDrainSideSpec)

/-- 'laws.FnBuildOnline', WHERE WHAT IT READS IS OF BULK AT MOST 1048576: true; the input reads as it did. -/
def fnBuildOnlineUptoRow : OpenClaim := { program := "ytppbmhlmbepneaa", sum := "fcc620865d6b23798b01500194d0c268b179e16f84c7aae6eee41d0b3ec82ff4", func := "loop.example/schemamigration/laws.FnBuildOnline", spec := "fnBuildOnline", inPlace := ["slices.overlaps[loop.example/schemamigration/impl.Item]"], unfollowed := true, recurses := true, apart := false, narrowed := true }
def FnBuildOnlineUptoSaid : Prop := fnBuildOnlineUptoRow.holds Try.pinned (OpenSpec.upto fnBuildOnlineSpec)

/-- 'laws.FnBuildOnlineScans', WHERE WHAT IT READS IS OF BULK AT MOST 1048576: true; the input reads as it did. -/
def fnBuildOnlineScansUptoRow : OpenClaim := { program := "ytppbmhlmbepneaa", sum := "fcc620865d6b23798b01500194d0c268b179e16f84c7aae6eee41d0b3ec82ff4", func := "loop.example/schemamigration/laws.FnBuildOnlineScans", spec := "fnBuildOnlineScans", inPlace := ["slices.overlaps[loop.example/schemamigration/impl.Item]"], unfollowed := true, recurses := true, apart := false, narrowed := true }
def FnBuildOnlineScansUptoSaid : Prop := fnBuildOnlineScansUptoRow.holds Try.pinned (OpenSpec.upto fnBuildOnlineScansSpec)

/-- 'laws.FnCanBeUnique', WHERE WHAT IT READS IS OF BULK AT MOST 1048576: true; the input reads as it did. -/
def fnCanBeUniqueUptoRow : OpenClaim := { program := "ytppbmhlmbepneaa", sum := "fcc620865d6b23798b01500194d0c268b179e16f84c7aae6eee41d0b3ec82ff4", func := "loop.example/schemamigration/laws.FnCanBeUnique", spec := "fnCanBeUnique", inPlace := ["slices.overlaps[loop.example/schemamigration/impl.Item]"], unfollowed := true, recurses := true, apart := false, narrowed := true }
def FnCanBeUniqueUptoSaid : Prop := fnCanBeUniqueUptoRow.holds Try.pinned (OpenSpec.upto fnCanBeUniqueSpec)

/-- 'laws.FnFirstClash', WHERE WHAT IT READS IS OF BULK AT MOST 1048576: true; the input reads as it did. -/
def fnFirstClashUptoRow : OpenClaim := { program := "ytppbmhlmbepneaa", sum := "fcc620865d6b23798b01500194d0c268b179e16f84c7aae6eee41d0b3ec82ff4", func := "loop.example/schemamigration/laws.FnFirstClash", spec := "fnFirstClash", inPlace := ["slices.overlaps[loop.example/schemamigration/impl.Item]"], unfollowed := true, recurses := true, apart := false, narrowed := true }
def FnFirstClashUptoSaid : Prop := fnFirstClashUptoRow.holds Try.pinned (OpenSpec.upto fnFirstClashSpec)

end Rows
end Go.Proofs.Ytppbmhlmbepneaa
