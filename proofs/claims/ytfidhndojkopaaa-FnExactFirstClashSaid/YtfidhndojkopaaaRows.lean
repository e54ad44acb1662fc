/-
  No cell of these rows narrows 'for every input' (looked for: loops, veiled, ifaces, maps, wideKeys, modest, calm, conditions, laid).
  DERIVED. THE GIVEN ROWS OF THIS SEAT. 7 by the template 'for every input the law returns true; each argument reads behind the call as it read before'; 0 by the template 'total and deterministic' (their statements: YtfidhndojkopaaaTotals.lean).
  GIVEN WITH THE SEED: the statements are not yours to turn. If you find one false, say at which input.
  Laid BY PROGRAM, IN A SANDBOX (cutbox-rows.mjs): the forced cells as the released guide's own fill.sh prints them over the translation 06c6bb66c4e36053… (all of the seat's roots in one cut). By AI agents, Wed Nov 11 2026. No macro, syntax, notation, axiom, sorry.
-/
import Derived.Test.YtfidhndojkopaaaChecked
import GoSem.Claim
import GoSem.ClaimJoined
import GoSem.ClaimMapViews
import Derived.JoinedTies
import Derived.KernelRfl
namespace Go.Proofs.Ytfidhndojkopaaa
/- THE CELL 'sum', in the pinned program and in every row, IS THE sha256 OF THE DUMP (.gsa) THAT YtfidhndojkopaaaProg.lean LOADS. Nothing in Lean hashes anything: it is a label: what it is worth is what the hold of that sum in a sandbox is worth. -/
noncomputable def Try.pinned : Pinned := { name := "ytfidhndojkopaaa", sum := "06c6bb66c4e36053a5febeba8b729cafe5eea28de9acdffd6db396d880c378d4", checked := Try.checked }
namespace Rows
def none {H : Type} : Left H := { results := [], args := [] }

/-- 'laws.FnExactIndexOf': WHATEVER THE INPUT: true; the input reads as it did. -/
def fnExactIndexOfSpec : ChangeSpec := { name := "fnExactIndexOf", fn := fun _ => fun
  | [d] => { results := [.lit (.bool true)], args := [d] }
  | _ => none }
def fnExactIndexOfRow : OpenClaim := { program := "ytfidhndojkopaaa", sum := "06c6bb66c4e36053a5febeba8b729cafe5eea28de9acdffd6db396d880c378d4", func := "loop.example/schemamigration/laws.FnExactIndexOf", spec := "fnExactIndexOf", unfollowed := true, recurses := true, apart := false }
def FnExactIndexOfSaid : Prop := fnExactIndexOfRow.holds Try.pinned (OpenSpec.ofChange fnExactIndexOfSpec)

/-- ITS FALSE NEIGHBOUR: 'it returns false'. Refute it at one input. -/
def fnExactIndexOfWrong : ChangeSpec := { name := "fnExactIndexOf", fn := fun _ => fun
  | [d] => { results := [.lit (.bool false)], args := [d] }
  | _ => none }
def FnExactIndexOfWrongFalsely : Prop := fnExactIndexOfRow.holds Try.pinned (OpenSpec.ofChange fnExactIndexOfWrong)

/-- 'laws.FnExactRowsAfter': WHATEVER THE INPUT: true; the input reads as it did. -/
def fnExactRowsAfterSpec : ChangeSpec := { name := "fnExactRowsAfter", fn := fun _ => fun
  | [d1, d2] => { results := [.lit (.bool true)], args := [d1, d2] }
  | _ => none }
def fnExactRowsAfterRow : OpenClaim := { program := "ytfidhndojkopaaa", sum := "06c6bb66c4e36053a5febeba8b729cafe5eea28de9acdffd6db396d880c378d4", func := "loop.example/schemamigration/laws.FnExactRowsAfter", spec := "fnExactRowsAfter", inPlace := ["slices.overlaps[loop.example/schemamigration/impl.Item]"], unfollowed := true, recurses := true, apart := false }
def FnExactRowsAfterSaid : Prop := fnExactRowsAfterRow.holds Try.pinned (OpenSpec.ofChange fnExactRowsAfterSpec)

/-- ITS FALSE NEIGHBOUR: 'it returns false'. Refute it at one input. -/
def fnExactRowsAfterWrong : ChangeSpec := { name := "fnExactRowsAfter", fn := fun _ => fun
  | [d1, d2] => { results := [.lit (.bool false)], args := [d1, d2] }
  | _ => none }
def FnExactRowsAfterWrongFalsely : Prop := fnExactRowsAfterRow.holds Try.pinned (OpenSpec.ofChange fnExactRowsAfterWrong)

/-- 'laws.FnExactSideOf': WHATEVER THE INPUT: true; the input reads as it did. -/
def fnExactSideOfSpec : ChangeSpec := { name := "fnExactSideOf", fn := fun _ => fun
  | [d1, d2] => { results := [.lit (.bool true)], args := [d1, d2] }
  | _ => none }
def fnExactSideOfRow : OpenClaim := { program := "ytfidhndojkopaaa", sum := "06c6bb66c4e36053a5febeba8b729cafe5eea28de9acdffd6db396d880c378d4", func := "loop.example/schemamigration/laws.FnExactSideOf", spec := "fnExactSideOf", inPlace := ["slices.overlaps[loop.example/schemamigration/impl.Item]"], unfollowed := true, recurses := true, apart := false }
def FnExactSideOfSaid : Prop := fnExactSideOfRow.holds Try.pinned (OpenSpec.ofChange fnExactSideOfSpec)

/-- ITS FALSE NEIGHBOUR: 'it returns false'. Refute it at one input. -/
def fnExactSideOfWrong : ChangeSpec := { name := "fnExactSideOf", fn := fun _ => fun
  | [d1, d2] => { results := [.lit (.bool false)], args := [d1, d2] }
  | _ => none }
def FnExactSideOfWrongFalsely : Prop := fnExactSideOfRow.holds Try.pinned (OpenSpec.ofChange fnExactSideOfWrong)

/-- 'laws.FnExactDrainSide': WHATEVER THE INPUT: true; the input reads as it did. -/
def fnExactDrainSideSpec : ChangeSpec := { name := "fnExactDrainSide", fn := fun _ => fun
  | [d1, d2] => { results := [.lit (.bool true)], args := [d1, d2] }
  | _ => none }
def fnExactDrainSideRow : OpenClaim := { program := "ytfidhndojkopaaa", sum := "06c6bb66c4e36053a5febeba8b729cafe5eea28de9acdffd6db396d880c378d4", func := "loop.example/schemamigration/laws.FnExactDrainSide", spec := "fnExactDrainSide", inPlace := ["slices.overlaps[loop.example/schemamigration/impl.Item]"], unfollowed := true, recurses := true, apart := false }
def FnExactDrainSideSaid : Prop := fnExactDrainSideRow.holds Try.pinned (OpenSpec.ofChange fnExactDrainSideSpec)

/-- ITS FALSE NEIGHBOUR: 'it returns false'. Refute it at one input. -/
def fnExactDrainSideWrong : ChangeSpec := { name := "fnExactDrainSide", fn := fun _ => fun
  | [d1, d2] => { results := [.lit (.bool false)], args := [d1, d2] }
  | _ => none }
def FnExactDrainSideWrongFalsely : Prop := fnExactDrainSideRow.holds Try.pinned (OpenSpec.ofChange fnExactDrainSideWrong)

/-- 'laws.FnExactBuildOnline': WHATEVER THE INPUT: true; the input reads as it did. -/
def fnExactBuildOnlineSpec : ChangeSpec := { name := "fnExactBuildOnline", fn := fun _ => fun
  | [d1, d2] => { results := [.lit (.bool true)], args := [d1, d2] }
  | _ => none }
def fnExactBuildOnlineRow : OpenClaim := { program := "ytfidhndojkopaaa", sum := "06c6bb66c4e36053a5febeba8b729cafe5eea28de9acdffd6db396d880c378d4", func := "loop.example/schemamigration/laws.FnExactBuildOnline", spec := "fnExactBuildOnline", inPlace := ["slices.overlaps[loop.example/schemamigration/impl.Item]"], unfollowed := true, recurses := true, apart := false }
def FnExactBuildOnlineSaid : Prop := fnExactBuildOnlineRow.holds Try.pinned (OpenSpec.ofChange fnExactBuildOnlineSpec)

/-- ITS FALSE NEIGHBOUR: 'it returns false'. Refute it at one input. -/
def fnExactBuildOnlineWrong : ChangeSpec := { name := "fnExactBuildOnline", fn := fun _ => fun
  | [d1, d2] => { results := [.lit (.bool false)], args := [d1, d2] }
  | _ => none }
def FnExactBuildOnlineWrongFalsely : Prop := fnExactBuildOnlineRow.holds Try.pinned (OpenSpec.ofChange fnExactBuildOnlineWrong)

/-- 'laws.FnExactCanBeUnique': WHATEVER THE INPUT: true; the input reads as it did. -/
def fnExactCanBeUniqueSpec : ChangeSpec := { name := "fnExactCanBeUnique", fn := fun _ => fun
  | [d1, d2] => { results := [.lit (.bool true)], args := [d1, d2] }
  | _ => none }
def fnExactCanBeUniqueRow : OpenClaim := { program := "ytfidhndojkopaaa", sum := "06c6bb66c4e36053a5febeba8b729cafe5eea28de9acdffd6db396d880c378d4", func := "loop.example/schemamigration/laws.FnExactCanBeUnique", spec := "fnExactCanBeUnique", inPlace := ["slices.overlaps[loop.example/schemamigration/impl.Item]"], unfollowed := true, recurses := true, apart := false }
def FnExactCanBeUniqueSaid : Prop := fnExactCanBeUniqueRow.holds Try.pinned (OpenSpec.ofChange fnExactCanBeUniqueSpec)

/-- ITS FALSE NEIGHBOUR: 'it returns false'. Refute it at one input. -/
def fnExactCanBeUniqueWrong : ChangeSpec := { name := "fnExactCanBeUnique", fn := fun _ => fun
  | [d1, d2] => { results := [.lit (.bool false)], args := [d1, d2] }
  | _ => none }
def FnExactCanBeUniqueWrongFalsely : Prop := fnExactCanBeUniqueRow.holds Try.pinned (OpenSpec.ofChange fnExactCanBeUniqueWrong)

/-- 'laws.FnExactFirstClash': WHATEVER THE INPUT: true; the input reads as it did. -/
def fnExactFirstClashSpec : ChangeSpec := { name := "fnExactFirstClash", fn := fun _ => fun
  | [d1, d2] => { results := [.lit (.bool true)], args := [d1, d2] }
  | _ => none }
def fnExactFirstClashRow : OpenClaim := { program := "ytfidhndojkopaaa", sum := "06c6bb66c4e36053a5febeba8b729cafe5eea28de9acdffd6db396d880c378d4", func := "loop.example/schemamigration/laws.FnExactFirstClash", spec := "fnExactFirstClash", inPlace := ["slices.overlaps[loop.example/schemamigration/impl.Item]"], unfollowed := true, recurses := true, apart := false }
def FnExactFirstClashSaid : Prop := fnExactFirstClashRow.holds Try.pinned (OpenSpec.ofChange fnExactFirstClashSpec)

/-- ITS FALSE NEIGHBOUR: 'it returns false'. Refute it at one input. -/
def fnExactFirstClashWrong : ChangeSpec := { name := "fnExactFirstClash", fn := fun _ => fun
  | [d1, d2] => { results := [.lit (.bool false)], args := [d1, d2] }
  | _ => none }
def FnExactFirstClashWrongFalsely : Prop := fnExactFirstClashRow.holds Try.pinned (OpenSpec.ofChange fnExactFirstClashWrong)

/- THE SECOND FORM. 'bulk': how many values and letters a reading holds, each counted each time it is reached (what is shared counts as often as it is met; a slice's spare places count too). A statement '..UptoSaid' is the law's where the arguments, and the package variables that the reading takes, are together of bulk at most 1048576: NARROWER than '..Said'. Prove '..Said' where nothing that the law and all that it calls make is longer than what came in: it says more and counts as full. Else prove '..UptoSaid'. A law counts once. -/
mutual
def uptoBulk {H : Type} : DataW H → Nat
  | .lit (.string bytes) => bytes.length + 1
  | .lit _ => 1
  | .nil => 1
  | .ptr d => uptoBulk d + 1
  | .slice elems spare => uptoBulkAll elems + uptoBulkAll spare + 1
  | .agg parts => uptoBulkAll parts + 1
  | .iface _ d => uptoBulk d + 1
  | .map entries => uptoBulkEntries entries + 1
  | .held _ => 1
def uptoBulkAll {H : Type} : List (DataW H) → Nat
  | [] => 0
  | d :: r => uptoBulk d + uptoBulkAll r
def uptoBulkEntries {H : Type} : List (Lit × DataW H) → Nat
  | [] => 0
  | x :: r => uptoBulkEntry x + uptoBulkEntries r
def uptoBulkEntry {H : Type} : Lit × DataW H → Nat
  | (.string bytes, d) => bytes.length + uptoBulk d + 1
  | (_, d) => uptoBulk d + 1
 end
def uptoSmall : (H : Type) → List (DataW H) → Bool := fun _ ds => decide (uptoBulkAll ds ≤ 1048576)
def OpenSpec.upto (s : _root_.Go.ChangeSpec) : _root_.Go.OpenSpec := { _root_.Go.OpenSpec.ofChange s with cond := some uptoSmall }

/-- 'laws.FnExactIndexOf', WHERE WHAT IT READS IS OF BULK AT MOST 1048576: true; the input reads as it did. -/
def fnExactIndexOfUptoRow : OpenClaim := { program := "ytfidhndojkopaaa", sum := "06c6bb66c4e36053a5febeba8b729cafe5eea28de9acdffd6db396d880c378d4", func := "loop.example/schemamigration/laws.FnExactIndexOf", spec := "fnExactIndexOf", unfollowed := true, recurses := true, apart := false, narrowed := true }
def FnExactIndexOfUptoSaid : Prop := fnExactIndexOfUptoRow.holds Try.pinned (OpenSpec.upto fnExactIndexOfSpec)

/-- 'laws.FnExactRowsAfter', WHERE WHAT IT READS IS OF BULK AT MOST 1048576: true; the input reads as it did. -/
def fnExactRowsAfterUptoRow : OpenClaim := { program := "ytfidhndojkopaaa", sum := "06c6bb66c4e36053a5febeba8b729cafe5eea28de9acdffd6db396d880c378d4", func := "loop.example/schemamigration/laws.FnExactRowsAfter", spec := "fnExactRowsAfter", inPlace := ["slices.overlaps[loop.example/schemamigration/impl.Item]"], unfollowed := true, recurses := true, apart := false, narrowed := true }
def FnExactRowsAfterUptoSaid : Prop := fnExactRowsAfterUptoRow.holds Try.pinned (OpenSpec.upto fnExactRowsAfterSpec)

/-- 'laws.FnExactSideOf', WHERE WHAT IT READS IS OF BULK AT MOST 1048576: true; the input reads as it did. -/
def fnExactSideOfUptoRow : OpenClaim := { program := "ytfidhndojkopaaa", sum := "06c6bb66c4e36053a5febeba8b729cafe5eea28de9acdffd6db396d880c378d4", func := "loop.example/schemamigration/laws.FnExactSideOf", spec := "fnExactSideOf", inPlace := ["slices.overlaps[loop.example/schemamigration/impl.Item]"], unfollowed := true, recurses := true, apart := false, narrowed := true }
def FnExactSideOfUptoSaid : Prop := fnExactSideOfUptoRow.holds Try.pinned (OpenSpec.upto fnExactSideOfSpec)

/-- 'laws.FnExactDrainSide', WHERE WHAT IT READS IS OF BULK AT MOST 1048576: true; the input reads as it did. -/
def fnExactDrainSideUptoRow : OpenClaim := { program := "ytfidhndojkopaaa", sum := "06c6bb66c4e36053a5febeba8b729cafe5eea28de9acdffd6db396d880c378d4", func := "loop.example/schemamigration/laws.FnExactDrainSide", spec := "fnExactDrainSide", inPlace := ["slices.overlaps[loop.example/schemamigration/impl.Item]"], unfollowed := true, recurses := true, apart := false, narrowed := true }
def FnExactDrainSideUptoSaid : Prop := fnExactDrainSideUptoRow.holds Try.pinned (OpenSpec.upto fnExactDrainSideSpec)

/-- 'laws.FnExactBuildOnline', WHERE WHAT IT READS IS OF BULK AT MOST 1048576: true; the input reads as it did. -/
def fnExactBuildOnlineUptoRow : OpenClaim := { program := "ytfidhndojkopaaa", sum := "06c6bb66c4e36053a5febeba8b729cafe5eea28de9acdffd6db396d880c378d4", func := "loop.example/schemamigration/laws.FnExactBuildOnline", spec := "fnExactBuildOnline", inPlace := ["slices.overlaps[loop.example/schemamigration/impl.Item]"], unfollowed := true, recurses := true, apart := false, narrowed := true }
def FnExactBuildOnlineUptoSaid : Prop := fnExactBuildOnlineUptoRow.holds Try.pinned (OpenSpec.upto fnExactBuildOnlineSpec)

/-- 'laws.FnExactCanBeUnique', WHERE WHAT IT READS IS OF BULK AT MOST 1048576: true; the input reads as it did. -/
def fnExactCanBeUniqueUptoRow : OpenClaim := { program := "ytfidhndojkopaaa", sum := "06c6bb66c4e36053a5febeba8b729cafe5eea28de9acdffd6db396d880c378d4", func := "loop.example/schemamigration/laws.FnExactCanBeUnique", spec := "fnExactCanBeUnique", inPlace := ["slices.overlaps[loop.example/schemamigration/impl.Item]"], unfollowed := true, recurses := true, apart := false, narrowed := true }
def FnExactCanBeUniqueUptoSaid : Prop := fnExactCanBeUniqueUptoRow.holds Try.pinned (OpenSpec.upto fnExactCanBeUniqueSpec)

/-- 'laws.FnExactFirstClash', WHERE WHAT IT READS IS OF BULK AT MOST 1048576: true; the input reads as it did. -/
def fnExactFirstClashUptoRow : OpenClaim := { program := "ytfidhndojkopaaa", sum := "06c6bb66c4e36053a5febeba8b729cafe5eea28de9acdffd6db396d880c378d4", func := "loop.example/schemamigration/laws.FnExactFirstClash", spec := "fnExactFirstClash", inPlace := ["slices.overlaps[loop.example/schemamigration/impl.Item]"], unfollowed := true, recurses := true, apart := false, narrowed := true }
def FnExactFirstClashUptoSaid : Prop := fnExactFirstClashUptoRow.holds Try.pinned (OpenSpec.upto fnExactFirstClashSpec)

end Rows
end Go.Proofs.Ytfidhndojkopaaa
