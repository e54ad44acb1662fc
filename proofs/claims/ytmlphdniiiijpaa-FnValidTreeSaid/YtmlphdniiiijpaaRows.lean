/-
  No cell of these rows narrows 'for every input' (looked for: loops, veiled, ifaces, maps, wideKeys, modest, calm, conditions, laid).
  DERIVED. THE GIVEN ROWS OF THIS SEAT. 10 by the template 'for every input the law returns true; each argument reads behind the call as it read before'; 0 by the template 'total and deterministic' (their statements: YtmlphdniiiijpaaTotals.lean).
  GIVEN WITH THE SEED: the statements are not yours to turn. If you find one false, say at which input.
  Laid BY PROGRAM, IN A SANDBOX (cutbox-rows.mjs): the forced cells as the released guide's own fill.sh prints them over the translation cdd0d9a58ee4f033… (all of the seat's roots in one cut). By AI agents, Wed Nov 11 2026. No macro, syntax, notation, axiom, sorry.
-/
import Derived.Test.YtmlphdniiiijpaaChecked
import GoSem.Claim
import GoSem.ClaimJoined
import GoSem.ClaimMapViews
import Derived.JoinedTies
import Derived.KernelRfl
namespace Go.Proofs.Ytmlphdniiiijpaa
/- THE CELL 'sum', in the pinned program and in every row, IS THE sha256 OF THE DUMP (.gsa) THAT YtmlphdniiiijpaaProg.lean LOADS. Nothing in Lean hashes anything: it is a label: what it is worth is what the hold of that sum in a sandbox is worth. -/
noncomputable def Try.pinned : Pinned := { name := "ytmlphdniiiijpaa", sum := "cdd0d9a58ee4f03381a8266b551a18458650ed00ea079c63308d56fc271176de", checked := Try.checked }
namespace Rows
def none {H : Type} : Left H := { results := [], args := [] }

/-- 'laws.FnValidTree': WHATEVER THE INPUT: true; the input reads as it did. -/
def fnValidTreeSpec : ChangeSpec := { name := "fnValidTree", fn := fun _ => fun
  | [d] => { results := [.lit (.bool true)], args := [d] }
  | _ => none }
def fnValidTreeRow : OpenClaim := { program := "ytmlphdniiiijpaa", sum := "cdd0d9a58ee4f03381a8266b551a18458650ed00ea079c63308d56fc271176de", func := "loop.example/schemamigration/laws.FnValidTree", spec := "fnValidTree", apart := false }
def FnValidTreeSaid : Prop := fnValidTreeRow.holds Try.pinned (OpenSpec.ofChange fnValidTreeSpec)

/-- ITS FALSE NEIGHBOUR: 'it returns false'. Refute it at one input. -/
def fnValidTreeWrong : ChangeSpec := { name := "fnValidTree", fn := fun _ => fun
  | [d] => { results := [.lit (.bool false)], args := [d] }
  | _ => none }
def FnValidTreeWrongFalsely : Prop := fnValidTreeRow.holds Try.pinned (OpenSpec.ofChange fnValidTreeWrong)

/-- 'laws.FnTreeRange': WHATEVER THE INPUT: true; the input reads as it did. -/
def fnTreeRangeSpec : ChangeSpec := { name := "fnTreeRange", fn := fun _ => fun
  | [d] => { results := [.lit (.bool true)], args := [d] }
  | _ => none }
def fnTreeRangeRow : OpenClaim := { program := "ytmlphdniiiijpaa", sum := "cdd0d9a58ee4f03381a8266b551a18458650ed00ea079c63308d56fc271176de", func := "loop.example/schemamigration/laws.FnTreeRange", spec := "fnTreeRange", apart := false }
def FnTreeRangeSaid : Prop := fnTreeRangeRow.holds Try.pinned (OpenSpec.ofChange fnTreeRangeSpec)

/-- ITS FALSE NEIGHBOUR: 'it returns false'. Refute it at one input. -/
def fnTreeRangeWrong : ChangeSpec := { name := "fnTreeRange", fn := fun _ => fun
  | [d] => { results := [.lit (.bool false)], args := [d] }
  | _ => none }
def FnTreeRangeWrongFalsely : Prop := fnTreeRangeRow.holds Try.pinned (OpenSpec.ofChange fnTreeRangeWrong)

/-- 'laws.FnTreeLoad': WHATEVER THE INPUT: true; the input reads as it did. -/
def fnTreeLoadSpec : ChangeSpec := { name := "fnTreeLoad", fn := fun _ => fun
  | [d] => { results := [.lit (.bool true)], args := [d] }
  | _ => none }
def fnTreeLoadRow : OpenClaim := { program := "ytmlphdniiiijpaa", sum := "cdd0d9a58ee4f03381a8266b551a18458650ed00ea079c63308d56fc271176de", func := "loop.example/schemamigration/laws.FnTreeLoad", spec := "fnTreeLoad", apart := false }
def FnTreeLoadSaid : Prop := fnTreeLoadRow.holds Try.pinned (OpenSpec.ofChange fnTreeLoadSpec)

/-- ITS FALSE NEIGHBOUR: 'it returns false'. Refute it at one input. -/
def fnTreeLoadWrong : ChangeSpec := { name := "fnTreeLoad", fn := fun _ => fun
  | [d] => { results := [.lit (.bool false)], args := [d] }
  | _ => none }
def FnTreeLoadWrongFalsely : Prop := fnTreeLoadRow.holds Try.pinned (OpenSpec.ofChange fnTreeLoadWrong)

/-- 'laws.FnTreeDelete': WHATEVER THE INPUT: true; the input reads as it did. -/
def fnTreeDeleteSpec : ChangeSpec := { name := "fnTreeDelete", fn := fun _ => fun
  | [d] => { results := [.lit (.bool true)], args := [d] }
  | _ => none }
def fnTreeDeleteRow : OpenClaim := { program := "ytmlphdniiiijpaa", sum := "cdd0d9a58ee4f03381a8266b551a18458650ed00ea079c63308d56fc271176de", func := "loop.example/schemamigration/laws.FnTreeDelete", spec := "fnTreeDelete", unfollowed := true, recurses := true, apart := false }
def FnTreeDeleteSaid : Prop := fnTreeDeleteRow.holds Try.pinned (OpenSpec.ofChange fnTreeDeleteSpec)

/-- ITS FALSE NEIGHBOUR: 'it returns false'. Refute it at one input. -/
def fnTreeDeleteWrong : ChangeSpec := { name := "fnTreeDelete", fn := fun _ => fun
  | [d] => { results := [.lit (.bool false)], args := [d] }
  | _ => none }
def FnTreeDeleteWrongFalsely : Prop := fnTreeDeleteRow.holds Try.pinned (OpenSpec.ofChange fnTreeDeleteWrong)

/-- 'laws.FnExactTreeDelete': WHATEVER THE INPUT: true; the input reads as it did. -/
def fnExactTreeDeleteSpec : ChangeSpec := { name := "fnExactTreeDelete", fn := fun _ => fun
  | [d1, d2] => { results := [.lit (.bool true)], args := [d1, d2] }
  | _ => none }
def fnExactTreeDeleteRow : OpenClaim := { program := "ytmlphdniiiijpaa", sum := "cdd0d9a58ee4f03381a8266b551a18458650ed00ea079c63308d56fc271176de", func := "loop.example/schemamigration/laws.FnExactTreeDelete", spec := "fnExactTreeDelete", unfollowed := true, recurses := true, apart := false }
def FnExactTreeDeleteSaid : Prop := fnExactTreeDeleteRow.holds Try.pinned (OpenSpec.ofChange fnExactTreeDeleteSpec)

/-- ITS FALSE NEIGHBOUR: 'it returns false'. Refute it at one input. -/
def fnExactTreeDeleteWrong : ChangeSpec := { name := "fnExactTreeDelete", fn := fun _ => fun
  | [d1, d2] => { results := [.lit (.bool false)], args := [d1, d2] }
  | _ => none }
def FnExactTreeDeleteWrongFalsely : Prop := fnExactTreeDeleteRow.holds Try.pinned (OpenSpec.ofChange fnExactTreeDeleteWrong)

/-- 'laws.FnTreeRangeDelete': WHATEVER THE INPUT: true; the input reads as it did. -/
def fnTreeRangeDeleteSpec : ChangeSpec := { name := "fnTreeRangeDelete", fn := fun _ => fun
  | [d] => { results := [.lit (.bool true)], args := [d] }
  | _ => none }
def fnTreeRangeDeleteRow : OpenClaim := { program := "ytmlphdniiiijpaa", sum := "cdd0d9a58ee4f03381a8266b551a18458650ed00ea079c63308d56fc271176de", func := "loop.example/schemamigration/laws.FnTreeRangeDelete", spec := "fnTreeRangeDelete", unfollowed := true, recurses := true, apart := false }
def FnTreeRangeDeleteSaid : Prop := fnTreeRangeDeleteRow.holds Try.pinned (OpenSpec.ofChange fnTreeRangeDeleteSpec)

/-- ITS FALSE NEIGHBOUR: 'it returns false'. Refute it at one input. -/
def fnTreeRangeDeleteWrong : ChangeSpec := { name := "fnTreeRangeDelete", fn := fun _ => fun
  | [d] => { results := [.lit (.bool false)], args := [d] }
  | _ => none }
def FnTreeRangeDeleteWrongFalsely : Prop := fnTreeRangeDeleteRow.holds Try.pinned (OpenSpec.ofChange fnTreeRangeDeleteWrong)

/-- 'laws.FnTreeInsert': WHATEVER THE INPUT: true; the input reads as it did. -/
def fnTreeInsertSpec : ChangeSpec := { name := "fnTreeInsert", fn := fun _ => fun
  | [d] => { results := [.lit (.bool true)], args := [d] }
  | _ => none }
def fnTreeInsertRow : OpenClaim := { program := "ytmlphdniiiijpaa", sum := "cdd0d9a58ee4f03381a8266b551a18458650ed00ea079c63308d56fc271176de", func := "loop.example/schemamigration/laws.FnTreeInsert", spec := "fnTreeInsert", inPlace := ["slices.overlaps[loop.example/schemamigration/impl.Item]"], unfollowed := true, recurses := true, apart := false }
def FnTreeInsertSaid : Prop := fnTreeInsertRow.holds Try.pinned (OpenSpec.ofChange fnTreeInsertSpec)

/-- ITS FALSE NEIGHBOUR: 'it returns false'. Refute it at one input. -/
def fnTreeInsertWrong : ChangeSpec := { name := "fnTreeInsert", fn := fun _ => fun
  | [d] => { results := [.lit (.bool false)], args := [d] }
  | _ => none }
def FnTreeInsertWrongFalsely : Prop := fnTreeInsertRow.holds Try.pinned (OpenSpec.ofChange fnTreeInsertWrong)

/-- 'laws.FnExactTreeInsert': WHATEVER THE INPUT: true; the input reads as it did. -/
def fnExactTreeInsertSpec : ChangeSpec := { name := "fnExactTreeInsert", fn := fun _ => fun
  | [d1, d2] => { results := [.lit (.bool true)], args := [d1, d2] }
  | _ => none }
def fnExactTreeInsertRow : OpenClaim := { program := "ytmlphdniiiijpaa", sum := "cdd0d9a58ee4f03381a8266b551a18458650ed00ea079c63308d56fc271176de", func := "loop.example/schemamigration/laws.FnExactTreeInsert", spec := "fnExactTreeInsert", inPlace := ["slices.overlaps[loop.example/schemamigration/impl.Item]"], unfollowed := true, recurses := true, apart := false }
def FnExactTreeInsertSaid : Prop := fnExactTreeInsertRow.holds Try.pinned (OpenSpec.ofChange fnExactTreeInsertSpec)

/-- ITS FALSE NEIGHBOUR: 'it returns false'. Refute it at one input. -/
def fnExactTreeInsertWrong : ChangeSpec := { name := "fnExactTreeInsert", fn := fun _ => fun
  | [d1, d2] => { results := [.lit (.bool false)], args := [d1, d2] }
  | _ => none }
def FnExactTreeInsertWrongFalsely : Prop := fnExactTreeInsertRow.holds Try.pinned (OpenSpec.ofChange fnExactTreeInsertWrong)

/-- 'laws.FnTreeLoadInsert': WHATEVER THE INPUT: true; the input reads as it did. -/
def fnTreeLoadInsertSpec : ChangeSpec := { name := "fnTreeLoadInsert", fn := fun _ => fun
  | [d] => { results := [.lit (.bool true)], args := [d] }
  | _ => none }
def fnTreeLoadInsertRow : OpenClaim := { program := "ytmlphdniiiijpaa", sum := "cdd0d9a58ee4f03381a8266b551a18458650ed00ea079c63308d56fc271176de", func := "loop.example/schemamigration/laws.FnTreeLoadInsert", spec := "fnTreeLoadInsert", inPlace := ["slices.overlaps[loop.example/schemamigration/impl.Item]"], unfollowed := true, recurses := true, apart := false }
def FnTreeLoadInsertSaid : Prop := fnTreeLoadInsertRow.holds Try.pinned (OpenSpec.ofChange fnTreeLoadInsertSpec)

/-- ITS FALSE NEIGHBOUR: 'it returns false'. Refute it at one input. -/
def fnTreeLoadInsertWrong : ChangeSpec := { name := "fnTreeLoadInsert", fn := fun _ => fun
  | [d] => { results := [.lit (.bool false)], args := [d] }
  | _ => none }
def FnTreeLoadInsertWrongFalsely : Prop := fnTreeLoadInsertRow.holds Try.pinned (OpenSpec.ofChange fnTreeLoadInsertWrong)

/-- 'laws.FnTreeInsertBack': WHATEVER THE INPUT: true; the input reads as it did. -/
def fnTreeInsertBackSpec : ChangeSpec := { name := "fnTreeInsertBack", fn := fun _ => fun
  | [d] => { results := [.lit (.bool true)], args := [d] }
  | _ => none }
def fnTreeInsertBackRow : OpenClaim := { program := "ytmlphdniiiijpaa", sum := "cdd0d9a58ee4f03381a8266b551a18458650ed00ea079c63308d56fc271176de", func := "loop.example/schemamigration/laws.FnTreeInsertBack", spec := "fnTreeInsertBack", inPlace := ["slices.overlaps[loop.example/schemamigration/impl.Item]"], unfollowed := true, recurses := true, apart := false }
def FnTreeInsertBackSaid : Prop := fnTreeInsertBackRow.holds Try.pinned (OpenSpec.ofChange fnTreeInsertBackSpec)

/-- ITS FALSE NEIGHBOUR: 'it returns false'. Refute it at one input. -/
def fnTreeInsertBackWrong : ChangeSpec := { name := "fnTreeInsertBack", fn := fun _ => fun
  | [d] => { results := [.lit (.bool false)], args := [d] }
  | _ => none }
def FnTreeInsertBackWrongFalsely : Prop := fnTreeInsertBackRow.holds Try.pinned (OpenSpec.ofChange fnTreeInsertBackWrong)

/- THE SECOND FORM. 'bulk': how many values and letters a reading holds, each counted each time it is reached (what is shared counts as often as it is met; a slice's spare places count too). A statement '..UptoSaid' is the law's where the arguments, and the package variables that the reading takes, are together of bulk at most 1048576: NARROWER than '..Said'. Prove '..Said' where nothing that the law and all that it calls make is longer than what came in: it says more and counts as full. Else prove '..UptoSaid'. A law counts once. -/
mutual
def uptoBulk {H : Type} : DataW H → Nat
  | .lit (.string bytes) => bytes.length + 1
  | .lit _ => 1
  | .nil => 1
  | .ptr d => uptoBulk d + 1
  | .slice elems spare => uptoBulkAll elems + uptoBulkAll spare + 1
  | .agg parts => uptoBulkAll parts + 1
  | .iface _ d => uptoBulk d + 1
  | .map entries => uptoBulkEntries entries + 1
  | .held _ => 1
def uptoBulkAll {H : Type} : List (DataW H) → Nat
  | [] => 0
  | d :: r => uptoBulk d + uptoBulkAll r
def uptoBulkEntries {H : Type} : List (Lit × DataW H) → Nat
  | [] => 0
  | x :: r => uptoBulkEntry x + uptoBulkEntries r
def uptoBulkEntry {H : Type} : Lit × DataW H → Nat
  | (.string bytes, d) => bytes.length + uptoBulk d + 1
  | (_, d) => uptoBulk d + 1
 end
def uptoSmall : (H : Type) → List (DataW H) → Bool := fun _ ds => decide (uptoBulkAll ds ≤ 1048576)
def OpenSpec.upto (s : _root_.Go.ChangeSpec) : _root_.Go.OpenSpec := { _root_.Go.OpenSpec.ofChange s with cond := some uptoSmall }

/-- 'laws.FnValidTree', WHERE WHAT IT READS IS OF BULK AT MOST 1048576: true; the input reads as it did. -/
def fnValidTreeUptoRow : OpenClaim := { program := "ytmlphdniiiijpaa", sum := "cdd0d9a58ee4f03381a8266b551a18458650ed00ea079c63308d56fc271176de", func := "loop.example/schemamigration/laws.FnValidTree", spec := "fnValidTree", apart := false, narrowed := true }
def FnValidTreeUptoSaid : Prop := fnValidTreeUptoRow.holds Try.pinned (OpenSpec.upto fnValidTreeSpec)

/-- 'laws.FnTreeRange', WHERE WHAT IT READS IS OF BULK AT MOST 1048576: true; the input reads as it did. -/
def fnTreeRangeUptoRow : OpenClaim := { program := "ytmlphdniiiijpaa", sum := "cdd0d9a58ee4f03381a8266b551a18458650ed00ea079c63308d56fc271176de", func := "loop.example/schemamigration/laws.FnTreeRange", spec := "fnTreeRange", apart := false, narrowed := true }
def FnTreeRangeUptoSaid : Prop := fnTreeRangeUptoRow.holds Try.pinned (OpenSpec.upto fnTreeRangeSpec)

/-- 'laws.FnTreeLoad', WHERE WHAT IT READS IS OF BULK AT MOST 1048576: true; the input reads as it did. -/
def fnTreeLoadUptoRow : OpenClaim := { program := "ytmlphdniiiijpaa", sum := "cdd0d9a58ee4f03381a8266b551a18458650ed00ea079c63308d56fc271176de", func := "loop.example/schemamigration/laws.FnTreeLoad", spec := "fnTreeLoad", apart := false, narrowed := true }
def FnTreeLoadUptoSaid : Prop := fnTreeLoadUptoRow.holds Try.pinned (OpenSpec.upto fnTreeLoadSpec)

/-- 'laws.FnTreeDelete', WHERE WHAT IT READS IS OF BULK AT MOST 1048576: true; the input reads as it did. -/
def fnTreeDeleteUptoRow : OpenClaim := { program := "ytmlphdniiiijpaa", sum := "cdd0d9a58ee4f03381a8266b551a18458650ed00ea079c63308d56fc271176de", func := "loop.example/schemamigration/laws.FnTreeDelete", spec := "fnTreeDelete", unfollowed := true, recurses := true, apart := false, narrowed := true }
def FnTreeDeleteUptoSaid : Prop := fnTreeDeleteUptoRow.holds Try.pinned (OpenSpec.upto fnTreeDeleteSpec)

/-- 'laws.FnExactTreeDelete', WHERE WHAT IT READS IS OF BULK AT MOST 1048576: true; the input reads as it did. -/
def fnExactTreeDeleteUptoRow : OpenClaim := { program := "ytmlphdniiiijpaa", sum := "cdd0d9a58ee4f03381a8266b551a18458650ed00ea079c63308d56fc271176de", func := "loop.example/schemamigration/laws.FnExactTreeDelete", spec := "fnExactTreeDelete", unfollowed := true, recurses := true, apart := false, narrowed := true }
def FnExactTreeDeleteUptoSaid : Prop := fnExactTreeDeleteUptoRow.holds Try.pinned (OpenSpec.upto fnExactTreeDeleteSpec)

/-- 'laws.FnTreeRangeDelete', WHERE WHAT IT READS IS OF BULK AT MOST 1048576: true; the input reads as it did. -/
def fnTreeRangeDeleteUptoRow : OpenClaim := { program := "ytmlphdniiiijpaa", sum := "cdd0d9a58ee4f03381a8266b551a18458650ed00ea079c63308d56fc271176de", func := "loop.example/schemamigration/laws.FnTreeRangeDelete", spec := "fnTreeRangeDelete", unfollowed := true, recurses := true, apart := false, narrowed := true }
def FnTreeRangeDeleteUptoSaid : Prop := fnTreeRangeDeleteUptoRow.holds Try.pinned (OpenSpec.upto fnTreeRangeDeleteSpec)

/-- 'laws.FnTreeInsert', WHERE WHAT IT READS IS OF BULK AT MOST 1048576: true; the input reads as it did. -/
def fnTreeInsertUptoRow : OpenClaim := { program := "ytmlphdniiiijpaa", sum := "cdd0d9a58ee4f03381a8266b551a18458650ed00ea079c63308d56fc271176de", func := "loop.example/schemamigration/laws.FnTreeInsert", spec := "fnTreeInsert", inPlace := ["slices.overlaps[loop.example/schemamigration/impl.Item]"], unfollowed := true, recurses := true, apart := false, narrowed := true }
def FnTreeInsertUptoSaid : Prop := fnTreeInsertUptoRow.holds Try.pinned (OpenSpec.upto fnTreeInsertSpec)

/-- 'laws.FnExactTreeInsert', WHERE WHAT IT READS IS OF BULK AT MOST 1048576: true; the input reads as it did. -/
def fnExactTreeInsertUptoRow : OpenClaim := { program := "ytmlphdniiiijpaa", sum := "cdd0d9a58ee4f03381a8266b551a18458650ed00ea079c63308d56fc271176de", func := "loop.example/schemamigration/laws.FnExactTreeInsert", spec := "fnExactTreeInsert", inPlace := ["slices.overlaps[loop.example/schemamigration/impl.Item]"], unfollowed := true, recurses := true, apart := false, narrowed := true }
def FnExactTreeInsertUptoSaid : Prop := fnExactTreeInsertUptoRow.holds Try.pinned (OpenSpec.upto fnExactTreeInsertSpec)

/-- 'laws.FnTreeLoadInsert', WHERE WHAT IT READS IS OF BULK AT MOST 1048576: true; the input reads as it did. -/
def fnTreeLoadInsertUptoRow : OpenClaim := { program := "ytmlphdniiiijpaa", sum := "cdd0d9a58ee4f03381a8266b551a18458650ed00ea079c63308d56fc271176de", func := "loop.example/schemamigration/laws.FnTreeLoadInsert", spec := "fnTreeLoadInsert", inPlace := ["slices.overlaps[loop.example/schemamigration/impl.Item]"], unfollowed := true, recurses := true, apart := false, narrowed := true }
def FnTreeLoadInsertUptoSaid : Prop := fnTreeLoadInsertUptoRow.holds Try.pinned (OpenSpec.upto fnTreeLoadInsertSpec)

/-- 'laws.FnTreeInsertBack', WHERE WHAT IT READS IS OF BULK AT MOST 1048576: true; the input reads as it did. -/
def fnTreeInsertBackUptoRow : OpenClaim := { program := "ytmlphdniiiijpaa", sum := "cdd0d9a58ee4f03381a8266b551a18458650ed00ea079c63308d56fc271176de", func := "loop.example/schemamigration/laws.FnTreeInsertBack", spec := "fnTreeInsertBack", inPlace := ["slices.overlaps[loop.example/schemamigration/impl.Item]"], unfollowed := true, recurses := true, apart := false, narrowed := true }
def FnTreeInsertBackUptoSaid : Prop := fnTreeInsertBackUptoRow.holds Try.pinned (OpenSpec.upto fnTreeInsertBackSpec)

end Rows
end Go.Proofs.Ytmlphdniiiijpaa
