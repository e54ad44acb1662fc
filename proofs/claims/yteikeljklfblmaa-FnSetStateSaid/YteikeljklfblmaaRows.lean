/-
  No cell of these rows narrows 'for every input' (looked for: loops, veiled, ifaces, maps, wideKeys, modest, calm, conditions, laid).
  DERIVED. THE GIVEN ROWS OF THIS SEAT. 11 by the template 'for every input the law returns true; each argument reads behind the call as it read before'; 0 by the template 'total and deterministic' (their statements: YteikeljklfblmaaTotals.lean).
  GIVEN WITH THE SEED: the statements are not yours to turn. If you find one false, say at which input.
  Laid BY PROGRAM, IN A SANDBOX (cutbox-rows.mjs): the forced cells as the released guide's own fill.sh prints them over the translation d3dc81e0421a8cca… (all of the seat's roots in one cut). By AI agents, Wed Nov 11 2026. No macro, syntax, notation, axiom, sorry.
-/
import Derived.Test.YteikeljklfblmaaChecked
import GoSem.Claim
import GoSem.ClaimJoined
import GoSem.ClaimMapViews
import Derived.JoinedTies
import Derived.KernelRfl
namespace Go.Proofs.Yteikeljklfblmaa
/- THE CELL 'sum', in the pinned program and in every row, IS THE sha256 OF THE DUMP (.gsa) THAT YteikeljklfblmaaProg.lean LOADS. Nothing in Lean hashes anything: it is a label: what it is worth is what the hold of that sum in a sandbox is worth. -/
noncomputable def Try.pinned : Pinned := { name := "yteikeljklfblmaa", sum := "d3dc81e0421a8ccab3409f1deeac6569b761501889d72a27b56c5d31272c4166", checked := Try.checked }
namespace Rows
def none {H : Type} : Left H := { results := [], args := [] }

/-- 'laws.FnValidCatalog': WHATEVER THE INPUT: true; the input reads as it did. -/
def fnValidCatalogSpec : ChangeSpec := { name := "fnValidCatalog", fn := fun _ => fun
  | [d] => { results := [.lit (.bool true)], args := [d] }
  | _ => none }
def fnValidCatalogRow : OpenClaim := { program := "yteikeljklfblmaa", sum := "d3dc81e0421a8ccab3409f1deeac6569b761501889d72a27b56c5d31272c4166", func := "loop.example/schemamigration/laws.FnValidCatalog", spec := "fnValidCatalog", unfollowed := true, recurses := true, apart := false }
def FnValidCatalogSaid : Prop := fnValidCatalogRow.holds Try.pinned (OpenSpec.ofChange fnValidCatalogSpec)

/-- ITS FALSE NEIGHBOUR: 'it returns false'. Refute it at one input. -/
def fnValidCatalogWrong : ChangeSpec := { name := "fnValidCatalog", fn := fun _ => fun
  | [d] => { results := [.lit (.bool false)], args := [d] }
  | _ => none }
def FnValidCatalogWrongFalsely : Prop := fnValidCatalogRow.holds Try.pinned (OpenSpec.ofChange fnValidCatalogWrong)

/-- 'laws.FnExactValidCatalog': WHATEVER THE INPUT: true; the input reads as it did. -/
def fnExactValidCatalogSpec : ChangeSpec := { name := "fnExactValidCatalog", fn := fun _ => fun
  | [d] => { results := [.lit (.bool true)], args := [d] }
  | _ => none }
def fnExactValidCatalogRow : OpenClaim := { program := "yteikeljklfblmaa", sum := "d3dc81e0421a8ccab3409f1deeac6569b761501889d72a27b56c5d31272c4166", func := "loop.example/schemamigration/laws.FnExactValidCatalog", spec := "fnExactValidCatalog", unfollowed := true, recurses := true, apart := false }
def FnExactValidCatalogSaid : Prop := fnExactValidCatalogRow.holds Try.pinned (OpenSpec.ofChange fnExactValidCatalogSpec)

/-- ITS FALSE NEIGHBOUR: 'it returns false'. Refute it at one input. -/
def fnExactValidCatalogWrong : ChangeSpec := { name := "fnExactValidCatalog", fn := fun _ => fun
  | [d] => { results := [.lit (.bool false)], args := [d] }
  | _ => none }
def FnExactValidCatalogWrongFalsely : Prop := fnExactValidCatalogRow.holds Try.pinned (OpenSpec.ofChange fnExactValidCatalogWrong)

/-- 'laws.FnDropEntry': WHATEVER THE INPUT: true; the input reads as it did. -/
def fnDropEntrySpec : ChangeSpec := { name := "fnDropEntry", fn := fun _ => fun
  | [d] => { results := [.lit (.bool true)], args := [d] }
  | _ => none }
def fnDropEntryRow : OpenClaim := { program := "yteikeljklfblmaa", sum := "d3dc81e0421a8ccab3409f1deeac6569b761501889d72a27b56c5d31272c4166", func := "loop.example/schemamigration/laws.FnDropEntry", spec := "fnDropEntry", unfollowed := true, recurses := true, apart := false }
def FnDropEntrySaid : Prop := fnDropEntryRow.holds Try.pinned (OpenSpec.ofChange fnDropEntrySpec)

/-- ITS FALSE NEIGHBOUR: 'it returns false'. Refute it at one input. -/
def fnDropEntryWrong : ChangeSpec := { name := "fnDropEntry", fn := fun _ => fun
  | [d] => { results := [.lit (.bool false)], args := [d] }
  | _ => none }
def FnDropEntryWrongFalsely : Prop := fnDropEntryRow.holds Try.pinned (OpenSpec.ofChange fnDropEntryWrong)

/-- 'laws.FnDropEntryIndex': WHATEVER THE INPUT: true; the input reads as it did. -/
def fnDropEntryIndexSpec : ChangeSpec := { name := "fnDropEntryIndex", fn := fun _ => fun
  | [d] => { results := [.lit (.bool true)], args := [d] }
  | _ => none }
def fnDropEntryIndexRow : OpenClaim := { program := "yteikeljklfblmaa", sum := "d3dc81e0421a8ccab3409f1deeac6569b761501889d72a27b56c5d31272c4166", func := "loop.example/schemamigration/laws.FnDropEntryIndex", spec := "fnDropEntryIndex", unfollowed := true, recurses := true, apart := false }
def FnDropEntryIndexSaid : Prop := fnDropEntryIndexRow.holds Try.pinned (OpenSpec.ofChange fnDropEntryIndexSpec)

/-- ITS FALSE NEIGHBOUR: 'it returns false'. Refute it at one input. -/
def fnDropEntryIndexWrong : ChangeSpec := { name := "fnDropEntryIndex", fn := fun _ => fun
  | [d] => { results := [.lit (.bool false)], args := [d] }
  | _ => none }
def FnDropEntryIndexWrongFalsely : Prop := fnDropEntryIndexRow.holds Try.pinned (OpenSpec.ofChange fnDropEntryIndexWrong)

/-- 'laws.FnUsableIndexes': WHATEVER THE INPUT: true; the input reads as it did. -/
def fnUsableIndexesSpec : ChangeSpec := { name := "fnUsableIndexes", fn := fun _ => fun
  | [d] => { results := [.lit (.bool true)], args := [d] }
  | _ => none }
def fnUsableIndexesRow : OpenClaim := { program := "yteikeljklfblmaa", sum := "d3dc81e0421a8ccab3409f1deeac6569b761501889d72a27b56c5d31272c4166", func := "loop.example/schemamigration/laws.FnUsableIndexes", spec := "fnUsableIndexes", unfollowed := true, recurses := true, apart := false }
def FnUsableIndexesSaid : Prop := fnUsableIndexesRow.holds Try.pinned (OpenSpec.ofChange fnUsableIndexesSpec)

/-- ITS FALSE NEIGHBOUR: 'it returns false'. Refute it at one input. -/
def fnUsableIndexesWrong : ChangeSpec := { name := "fnUsableIndexes", fn := fun _ => fun
  | [d] => { results := [.lit (.bool false)], args := [d] }
  | _ => none }
def FnUsableIndexesWrongFalsely : Prop := fnUsableIndexesRow.holds Try.pinned (OpenSpec.ofChange fnUsableIndexesWrong)

/-- 'laws.FnAddEntry': WHATEVER THE INPUT: true; the input reads as it did. -/
def fnAddEntrySpec : ChangeSpec := { name := "fnAddEntry", fn := fun _ => fun
  | [d] => { results := [.lit (.bool true)], args := [d] }
  | _ => none }
def fnAddEntryRow : OpenClaim := { program := "yteikeljklfblmaa", sum := "d3dc81e0421a8ccab3409f1deeac6569b761501889d72a27b56c5d31272c4166", func := "loop.example/schemamigration/laws.FnAddEntry", spec := "fnAddEntry", unfollowed := true, recurses := true, apart := false }
def FnAddEntrySaid : Prop := fnAddEntryRow.holds Try.pinned (OpenSpec.ofChange fnAddEntrySpec)

/-- ITS FALSE NEIGHBOUR: 'it returns false'. Refute it at one input. -/
def fnAddEntryWrong : ChangeSpec := { name := "fnAddEntry", fn := fun _ => fun
  | [d] => { results := [.lit (.bool false)], args := [d] }
  | _ => none }
def FnAddEntryWrongFalsely : Prop := fnAddEntryRow.holds Try.pinned (OpenSpec.ofChange fnAddEntryWrong)

/-- 'laws.FnSetState': WHATEVER THE INPUT: true; the input reads as it did. -/
def fnSetStateSpec : ChangeSpec := { name := "fnSetState", fn := fun _ => fun
  | [d] => { results := [.lit (.bool true)], args := [d] }
  | _ => none }
def fnSetStateRow : OpenClaim := { program := "yteikeljklfblmaa", sum := "d3dc81e0421a8ccab3409f1deeac6569b761501889d72a27b56c5d31272c4166", func := "loop.example/schemamigration/laws.FnSetState", spec := "fnSetState", unfollowed := true, recurses := true, apart := false }
def FnSetStateSaid : Prop := fnSetStateRow.holds Try.pinned (OpenSpec.ofChange fnSetStateSpec)

/-- ITS FALSE NEIGHBOUR: 'it returns false'. Refute it at one input. -/
def fnSetStateWrong : ChangeSpec := { name := "fnSetState", fn := fun _ => fun
  | [d] => { results := [.lit (.bool false)], args := [d] }
  | _ => none }
def FnSetStateWrongFalsely : Prop := fnSetStateRow.holds Try.pinned (OpenSpec.ofChange fnSetStateWrong)

/-- 'laws.FnUsableIndexesReady': WHATEVER THE INPUT: true; the input reads as it did. -/
def fnUsableIndexesReadySpec : ChangeSpec := { name := "fnUsableIndexesReady", fn := fun _ => fun
  | [d] => { results := [.lit (.bool true)], args := [d] }
  | _ => none }
def fnUsableIndexesReadyRow : OpenClaim := { program := "yteikeljklfblmaa", sum := "d3dc81e0421a8ccab3409f1deeac6569b761501889d72a27b56c5d31272c4166", func := "loop.example/schemamigration/laws.FnUsableIndexesReady", spec := "fnUsableIndexesReady", unfollowed := true, recurses := true, apart := false }
def FnUsableIndexesReadySaid : Prop := fnUsableIndexesReadyRow.holds Try.pinned (OpenSpec.ofChange fnUsableIndexesReadySpec)

/-- ITS FALSE NEIGHBOUR: 'it returns false'. Refute it at one input. -/
def fnUsableIndexesReadyWrong : ChangeSpec := { name := "fnUsableIndexesReady", fn := fun _ => fun
  | [d] => { results := [.lit (.bool false)], args := [d] }
  | _ => none }
def FnUsableIndexesReadyWrongFalsely : Prop := fnUsableIndexesReadyRow.holds Try.pinned (OpenSpec.ofChange fnUsableIndexesReadyWrong)

/-- 'laws.FnExactDropEntry': WHATEVER THE INPUT: true; the input reads as it did. -/
def fnExactDropEntrySpec : ChangeSpec := { name := "fnExactDropEntry", fn := fun _ => fun
  | [d1, d2] => { results := [.lit (.bool true)], args := [d1, d2] }
  | _ => none }
def fnExactDropEntryRow : OpenClaim := { program := "yteikeljklfblmaa", sum := "d3dc81e0421a8ccab3409f1deeac6569b761501889d72a27b56c5d31272c4166", func := "loop.example/schemamigration/laws.FnExactDropEntry", spec := "fnExactDropEntry", unfollowed := true, recurses := true, apart := false }
def FnExactDropEntrySaid : Prop := fnExactDropEntryRow.holds Try.pinned (OpenSpec.ofChange fnExactDropEntrySpec)

/-- ITS FALSE NEIGHBOUR: 'it returns false'. Refute it at one input. -/
def fnExactDropEntryWrong : ChangeSpec := { name := "fnExactDropEntry", fn := fun _ => fun
  | [d1, d2] => { results := [.lit (.bool false)], args := [d1, d2] }
  | _ => none }
def FnExactDropEntryWrongFalsely : Prop := fnExactDropEntryRow.holds Try.pinned (OpenSpec.ofChange fnExactDropEntryWrong)

/-- 'laws.FnExactAddEntry': WHATEVER THE INPUT: true; the input reads as it did. -/
def fnExactAddEntrySpec : ChangeSpec := { name := "fnExactAddEntry", fn := fun _ => fun
  | [d1, d2] => { results := [.lit (.bool true)], args := [d1, d2] }
  | _ => none }
def fnExactAddEntryRow : OpenClaim := { program := "yteikeljklfblmaa", sum := "d3dc81e0421a8ccab3409f1deeac6569b761501889d72a27b56c5d31272c4166", func := "loop.example/schemamigration/laws.FnExactAddEntry", spec := "fnExactAddEntry", unfollowed := true, recurses := true, apart := false }
def FnExactAddEntrySaid : Prop := fnExactAddEntryRow.holds Try.pinned (OpenSpec.ofChange fnExactAddEntrySpec)

/-- ITS FALSE NEIGHBOUR: 'it returns false'. Refute it at one input. -/
def fnExactAddEntryWrong : ChangeSpec := { name := "fnExactAddEntry", fn := fun _ => fun
  | [d1, d2] => { results := [.lit (.bool false)], args := [d1, d2] }
  | _ => none }
def FnExactAddEntryWrongFalsely : Prop := fnExactAddEntryRow.holds Try.pinned (OpenSpec.ofChange fnExactAddEntryWrong)

/-- 'laws.FnExactSetState': WHATEVER THE INPUT: true; the input reads as it did. -/
def fnExactSetStateSpec : ChangeSpec := { name := "fnExactSetState", fn := fun _ => fun
  | [d1, d2, d3] => { results := [.lit (.bool true)], args := [d1, d2, d3] }
  | _ => none }
def fnExactSetStateRow : OpenClaim := { program := "yteikeljklfblmaa", sum := "d3dc81e0421a8ccab3409f1deeac6569b761501889d72a27b56c5d31272c4166", func := "loop.example/schemamigration/laws.FnExactSetState", spec := "fnExactSetState", unfollowed := true, recurses := true, apart := false }
def FnExactSetStateSaid : Prop := fnExactSetStateRow.holds Try.pinned (OpenSpec.ofChange fnExactSetStateSpec)

/-- ITS FALSE NEIGHBOUR: 'it returns false'. Refute it at one input. -/
def fnExactSetStateWrong : ChangeSpec := { name := "fnExactSetState", fn := fun _ => fun
  | [d1, d2, d3] => { results := [.lit (.bool false)], args := [d1, d2, d3] }
  | _ => none }
def FnExactSetStateWrongFalsely : Prop := fnExactSetStateRow.holds Try.pinned (OpenSpec.ofChange fnExactSetStateWrong)

/- THE SECOND FORM. 'bulk': how many values and letters a reading holds, each counted each time it is reached (what is shared counts as often as it is met; a slice's spare places count too). A statement '..UptoSaid' is the law's where the arguments, and the package variables that the reading takes, are together of bulk at most 1048576: NARROWER than '..Said'. Prove '..Said' where nothing that the law and all that it calls make is longer than what came in: it says more and counts as full. Else prove '..UptoSaid'. A law counts once. -/
mutual
def uptoBulk {H : Type} : DataW H → Nat
  | .lit (.string bytes) => bytes.length + 1
  | .lit _ => 1
  | .nil => 1
  | .ptr d => uptoBulk d + 1
  | .slice elems spare => uptoBulkAll elems + uptoBulkAll spare + 1
  | .agg parts => uptoBulkAll parts + 1
  | .iface _ d => uptoBulk d + 1
  | .map entries => uptoBulkEntries entries + 1
  | .held _ => 1
def uptoBulkAll {H : Type} : List (DataW H) → Nat
  | [] => 0
  | d :: r => uptoBulk d + uptoBulkAll r
def uptoBulkEntries {H : Type} : List (Lit × DataW H) → Nat
  | [] => 0
  | x :: r => uptoBulkEntry x + uptoBulkEntries r
def uptoBulkEntry {H : Type} : Lit × DataW H → Nat
  | (.string bytes, d) => bytes.length + uptoBulk d + 1
  | (_, d) => uptoBulk d + 1
 end
def uptoSmall : (H : Type) → List (DataW H) → Bool := fun _ ds => decide (uptoBulkAll ds ≤ 1048576)
def OpenSpec.upto (s : _root_.Go.ChangeSpec) : _root_.Go.OpenSpec := { _root_.Go.OpenSpec.ofChange s with cond := some uptoSmall }

/-- 'laws.FnValidCatalog', WHERE WHAT IT READS IS OF BULK AT MOST 1048576: true; the input reads as it did. -/
def fnValidCatalogUptoRow : OpenClaim := { program := "yteikeljklfblmaa", sum := "d3dc81e0421a8ccab3409f1deeac6569b761501889d72a27b56c5d31272c4166", func := "loop.example/schemamigration/laws.FnValidCatalog", spec := "fnValidCatalog", unfollowed := true, recurses := true, apart := false, narrowed := true }
def FnValidCatalogUptoSaid : Prop := fnValidCatalogUptoRow.holds Try.pinned (OpenSpec.upto fnValidCatalogSpec)

/-- 'laws.FnExactValidCatalog', WHERE WHAT IT READS IS OF BULK AT MOST 1048576: true; the input reads as it did. -/
def fnExactValidCatalogUptoRow : OpenClaim := { program := "yteikeljklfblmaa", sum := "d3dc81e0421a8ccab3409f1deeac6569b761501889d72a27b56c5d31272c4166", func := "loop.example/schemamigration/laws.FnExactValidCatalog", spec := "fnExactValidCatalog", unfollowed := true, recurses := true, apart := false, narrowed := true }
def FnExactValidCatalogUptoSaid : Prop := fnExactValidCatalogUptoRow.holds Try.pinned (OpenSpec.upto fnExactValidCatalogSpec)

/-- 'laws.FnDropEntry', WHERE WHAT IT READS IS OF BULK AT MOST 1048576: true; the input reads as it did. -/
def fnDropEntryUptoRow : OpenClaim := { program := "yteikeljklfblmaa", sum := "d3dc81e0421a8ccab3409f1deeac6569b761501889d72a27b56c5d31272c4166", func := "loop.example/schemamigration/laws.FnDropEntry", spec := "fnDropEntry", unfollowed := true, recurses := true, apart := false, narrowed := true }
def FnDropEntryUptoSaid : Prop := fnDropEntryUptoRow.holds Try.pinned (OpenSpec.upto fnDropEntrySpec)

/-- 'laws.FnDropEntryIndex', WHERE WHAT IT READS IS OF BULK AT MOST 1048576: true; the input reads as it did. -/
def fnDropEntryIndexUptoRow : OpenClaim := { program := "yteikeljklfblmaa", sum := "d3dc81e0421a8ccab3409f1deeac6569b761501889d72a27b56c5d31272c4166", func := "loop.example/schemamigration/laws.FnDropEntryIndex", spec := "fnDropEntryIndex", unfollowed := true, recurses := true, apart := false, narrowed := true }
def FnDropEntryIndexUptoSaid : Prop := fnDropEntryIndexUptoRow.holds Try.pinned (OpenSpec.upto fnDropEntryIndexSpec)

/-- 'laws.FnUsableIndexes', WHERE WHAT IT READS IS OF BULK AT MOST 1048576: true; the input reads as it did. -/
def fnUsableIndexesUptoRow : OpenClaim := { program := "yteikeljklfblmaa", sum := "d3dc81e0421a8ccab3409f1deeac6569b761501889d72a27b56c5d31272c4166", func := "loop.example/schemamigration/laws.FnUsableIndexes", spec := "fnUsableIndexes", unfollowed := true, recurses := true, apart := false, narrowed := true }
def FnUsableIndexesUptoSaid : Prop := fnUsableIndexesUptoRow.holds Try.pinned (OpenSpec.upto fnUsableIndexesSpec)

/-- 'laws.FnAddEntry', WHERE WHAT IT READS IS OF BULK AT MOST 1048576: true; the input reads as it did. -/
def fnAddEntryUptoRow : OpenClaim := { program := "yteikeljklfblmaa", sum := "d3dc81e0421a8ccab3409f1deeac6569b761501889d72a27b56c5d31272c4166", func := "loop.example/schemamigration/laws.FnAddEntry", spec := "fnAddEntry", unfollowed := true, recurses := true, apart := false, narrowed := true }
def FnAddEntryUptoSaid : Prop := fnAddEntryUptoRow.holds Try.pinned (OpenSpec.upto fnAddEntrySpec)

/-- 'laws.FnSetState', WHERE WHAT IT READS IS OF BULK AT MOST 1048576: true; the input reads as it did. -/
def fnSetStateUptoRow : OpenClaim := { program := "yteikeljklfblmaa", sum := "d3dc81e0421a8ccab3409f1deeac6569b761501889d72a27b56c5d31272c4166", func := "loop.example/schemamigration/laws.FnSetState", spec := "fnSetState", unfollowed := true, recurses := true, apart := false, narrowed := true }
def FnSetStateUptoSaid : Prop := fnSetStateUptoRow.holds Try.pinned (OpenSpec.upto fnSetStateSpec)

/-- 'laws.FnUsableIndexesReady', WHERE WHAT IT READS IS OF BULK AT MOST 1048576: true; the input reads as it did. -/
def fnUsableIndexesReadyUptoRow : OpenClaim := { program := "yteikeljklfblmaa", sum := "d3dc81e0421a8ccab3409f1deeac6569b761501889d72a27b56c5d31272c4166", func := "loop.example/schemamigration/laws.FnUsableIndexesReady", spec := "fnUsableIndexesReady", unfollowed := true, recurses := true, apart := false, narrowed := true }
def FnUsableIndexesReadyUptoSaid : Prop := fnUsableIndexesReadyUptoRow.holds Try.pinned (OpenSpec.upto fnUsableIndexesReadySpec)

/-- 'laws.FnExactDropEntry', WHERE WHAT IT READS IS OF BULK AT MOST 1048576: true; the input reads as it did. -/
def fnExactDropEntryUptoRow : OpenClaim := { program := "yteikeljklfblmaa", sum := "d3dc81e0421a8ccab3409f1deeac6569b761501889d72a27b56c5d31272c4166", func := "loop.example/schemamigration/laws.FnExactDropEntry", spec := "fnExactDropEntry", unfollowed := true, recurses := true, apart := false, narrowed := true }
def FnExactDropEntryUptoSaid : Prop := fnExactDropEntryUptoRow.holds Try.pinned (OpenSpec.upto fnExactDropEntrySpec)

/-- 'laws.FnExactAddEntry', WHERE WHAT IT READS IS OF BULK AT MOST 1048576: true; the input reads as it did. -/
def fnExactAddEntryUptoRow : OpenClaim := { program := "yteikeljklfblmaa", sum := "d3dc81e0421a8ccab3409f1deeac6569b761501889d72a27b56c5d31272c4166", func := "loop.example/schemamigration/laws.FnExactAddEntry", spec := "fnExactAddEntry", unfollowed := true, recurses := true, apart := false, narrowed := true }
def FnExactAddEntryUptoSaid : Prop := fnExactAddEntryUptoRow.holds Try.pinned (OpenSpec.upto fnExactAddEntrySpec)

/-- 'laws.FnExactSetState', WHERE WHAT IT READS IS OF BULK AT MOST 1048576: true; the input reads as it did. -/
def fnExactSetStateUptoRow : OpenClaim := { program := "yteikeljklfblmaa", sum := "d3dc81e0421a8ccab3409f1deeac6569b761501889d72a27b56c5d31272c4166", func := "loop.example/schemamigration/laws.FnExactSetState", spec := "fnExactSetState", unfollowed := true, recurses := true, apart := false, narrowed := true }
def FnExactSetStateUptoSaid : Prop := fnExactSetStateUptoRow.holds Try.pinned (OpenSpec.upto fnExactSetStateSpec)

end Rows
end Go.Proofs.Yteikeljklfblmaa
