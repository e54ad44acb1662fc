/-
  No cell of these rows narrows 'for every input' (looked for: loops, veiled, ifaces, maps, wideKeys, modest, calm, conditions, laid).
  DERIVED. THE GIVEN ROWS OF THIS SEAT. 10 by the template 'for every input the law returns true; each argument reads behind the call as it read before'; 0 by the template 'total and deterministic' (their statements: YtcfacldbmnlmoaaTotals.lean).
  GIVEN WITH THE SEED: the statements are not yours to turn. If you find one false, say at which input.
  Laid BY PROGRAM, IN A SANDBOX (cutbox-rows.mjs): the forced cells as the released guide's own fill.sh prints them over the translation 294572ebc6e005e2… (all of the seat's roots in one cut). By AI agents, Wed Nov 11 2026. No macro, syntax, notation, axiom, sorry.
-/
import Derived.Test.YtcfacldbmnlmoaaChecked
import GoSem.Claim
import GoSem.ClaimJoined
import GoSem.ClaimMapViews
import Derived.JoinedTies
import Derived.KernelRfl
namespace Go.Proofs.Ytcfacldbmnlmoaa
/- THE CELL 'sum', in the pinned program and in every row, IS THE sha256 OF THE DUMP (.gsa) THAT YtcfacldbmnlmoaaProg.lean LOADS. Nothing in Lean hashes anything: it is a label: what it is worth is what the hold of that sum in a sandbox is worth. -/
noncomputable def Try.pinned : Pinned := { name := "ytcfacldbmnlmoaa", sum := "294572ebc6e005e20f6872ea746f9501554b4a6d754671a87f3fc53f13d4bc32", checked := Try.checked }
namespace Rows
def none {H : Type} : Left H := { results := [], args := [] }

/-- 'laws.FnExactValidJob': WHATEVER THE INPUT: true; the input reads as it did. -/
def fnExactValidJobSpec : ChangeSpec := { name := "fnExactValidJob", fn := fun _ => fun
  | [d] => { results := [.lit (.bool true)], args := [d] }
  | _ => none }
def fnExactValidJobRow : OpenClaim := { program := "ytcfacldbmnlmoaa", sum := "294572ebc6e005e20f6872ea746f9501554b4a6d754671a87f3fc53f13d4bc32", func := "loop.example/schemamigration/laws.FnExactValidJob", spec := "fnExactValidJob", apart := false }
def FnExactValidJobSaid : Prop := fnExactValidJobRow.holds Try.pinned (OpenSpec.ofChange fnExactValidJobSpec)

/-- ITS FALSE NEIGHBOUR: 'it returns false'. Refute it at one input. -/
def fnExactValidJobWrong : ChangeSpec := { name := "fnExactValidJob", fn := fun _ => fun
  | [d] => { results := [.lit (.bool false)], args := [d] }
  | _ => none }
def FnExactValidJobWrongFalsely : Prop := fnExactValidJobRow.holds Try.pinned (OpenSpec.ofChange fnExactValidJobWrong)

/-- 'laws.FnExactWorkLeft': WHATEVER THE INPUT: true; the input reads as it did. -/
def fnExactWorkLeftSpec : ChangeSpec := { name := "fnExactWorkLeft", fn := fun _ => fun
  | [d] => { results := [.lit (.bool true)], args := [d] }
  | _ => none }
def fnExactWorkLeftRow : OpenClaim := { program := "ytcfacldbmnlmoaa", sum := "294572ebc6e005e20f6872ea746f9501554b4a6d754671a87f3fc53f13d4bc32", func := "loop.example/schemamigration/laws.FnExactWorkLeft", spec := "fnExactWorkLeft", apart := false }
def FnExactWorkLeftSaid : Prop := fnExactWorkLeftRow.holds Try.pinned (OpenSpec.ofChange fnExactWorkLeftSpec)

/-- ITS FALSE NEIGHBOUR: 'it returns false'. Refute it at one input. -/
def fnExactWorkLeftWrong : ChangeSpec := { name := "fnExactWorkLeft", fn := fun _ => fun
  | [d] => { results := [.lit (.bool false)], args := [d] }
  | _ => none }
def FnExactWorkLeftWrongFalsely : Prop := fnExactWorkLeftRow.holds Try.pinned (OpenSpec.ofChange fnExactWorkLeftWrong)

/-- 'laws.FnExactCrashJob': WHATEVER THE INPUT: true; the input reads as it did. -/
def fnExactCrashJobSpec : ChangeSpec := { name := "fnExactCrashJob", fn := fun _ => fun
  | [d] => { results := [.lit (.bool true)], args := [d] }
  | _ => none }
def fnExactCrashJobRow : OpenClaim := { program := "ytcfacldbmnlmoaa", sum := "294572ebc6e005e20f6872ea746f9501554b4a6d754671a87f3fc53f13d4bc32", func := "loop.example/schemamigration/laws.FnExactCrashJob", spec := "fnExactCrashJob", apart := false }
def FnExactCrashJobSaid : Prop := fnExactCrashJobRow.holds Try.pinned (OpenSpec.ofChange fnExactCrashJobSpec)

/-- ITS FALSE NEIGHBOUR: 'it returns false'. Refute it at one input. -/
def fnExactCrashJobWrong : ChangeSpec := { name := "fnExactCrashJob", fn := fun _ => fun
  | [d] => { results := [.lit (.bool false)], args := [d] }
  | _ => none }
def FnExactCrashJobWrongFalsely : Prop := fnExactCrashJobRow.holds Try.pinned (OpenSpec.ofChange fnExactCrashJobWrong)

/-- 'laws.FnExactStepJob': WHATEVER THE INPUT: true; the input reads as it did. -/
def fnExactStepJobSpec : ChangeSpec := { name := "fnExactStepJob", fn := fun _ => fun
  | [d1, d2] => { results := [.lit (.bool true)], args := [d1, d2] }
  | _ => none }
def fnExactStepJobRow : OpenClaim := { program := "ytcfacldbmnlmoaa", sum := "294572ebc6e005e20f6872ea746f9501554b4a6d754671a87f3fc53f13d4bc32", func := "loop.example/schemamigration/laws.FnExactStepJob", spec := "fnExactStepJob", apart := false }
def FnExactStepJobSaid : Prop := fnExactStepJobRow.holds Try.pinned (OpenSpec.ofChange fnExactStepJobSpec)

/-- ITS FALSE NEIGHBOUR: 'it returns false'. Refute it at one input. -/
def fnExactStepJobWrong : ChangeSpec := { name := "fnExactStepJob", fn := fun _ => fun
  | [d1, d2] => { results := [.lit (.bool false)], args := [d1, d2] }
  | _ => none }
def FnExactStepJobWrongFalsely : Prop := fnExactStepJobRow.holds Try.pinned (OpenSpec.ofChange fnExactStepJobWrong)

/-- 'laws.FnCrashJob': WHATEVER THE INPUT: true; the input reads as it did. -/
def fnCrashJobSpec : ChangeSpec := { name := "fnCrashJob", fn := fun _ => fun
  | [d] => { results := [.lit (.bool true)], args := [d] }
  | _ => none }
def fnCrashJobRow : OpenClaim := { program := "ytcfacldbmnlmoaa", sum := "294572ebc6e005e20f6872ea746f9501554b4a6d754671a87f3fc53f13d4bc32", func := "loop.example/schemamigration/laws.FnCrashJob", spec := "fnCrashJob", apart := false }
def FnCrashJobSaid : Prop := fnCrashJobRow.holds Try.pinned (OpenSpec.ofChange fnCrashJobSpec)

/-- ITS FALSE NEIGHBOUR: 'it returns false'. Refute it at one input. -/
def fnCrashJobWrong : ChangeSpec := { name := "fnCrashJob", fn := fun _ => fun
  | [d] => { results := [.lit (.bool false)], args := [d] }
  | _ => none }
def FnCrashJobWrongFalsely : Prop := fnCrashJobRow.holds Try.pinned (OpenSpec.ofChange fnCrashJobWrong)

/-- 'laws.FnStepJob': WHATEVER THE INPUT: true; the input reads as it did. -/
def fnStepJobSpec : ChangeSpec := { name := "fnStepJob", fn := fun _ => fun
  | [d] => { results := [.lit (.bool true)], args := [d] }
  | _ => none }
def fnStepJobRow : OpenClaim := { program := "ytcfacldbmnlmoaa", sum := "294572ebc6e005e20f6872ea746f9501554b4a6d754671a87f3fc53f13d4bc32", func := "loop.example/schemamigration/laws.FnStepJob", spec := "fnStepJob", apart := false }
def FnStepJobSaid : Prop := fnStepJobRow.holds Try.pinned (OpenSpec.ofChange fnStepJobSpec)

/-- ITS FALSE NEIGHBOUR: 'it returns false'. Refute it at one input. -/
def fnStepJobWrong : ChangeSpec := { name := "fnStepJob", fn := fun _ => fun
  | [d] => { results := [.lit (.bool false)], args := [d] }
  | _ => none }
def FnStepJobWrongFalsely : Prop := fnStepJobRow.holds Try.pinned (OpenSpec.ofChange fnStepJobWrong)

/-- 'laws.FnValidJob': WHATEVER THE INPUT: true; the input reads as it did. -/
def fnValidJobSpec : ChangeSpec := { name := "fnValidJob", fn := fun _ => fun
  | [d] => { results := [.lit (.bool true)], args := [d] }
  | _ => none }
def fnValidJobRow : OpenClaim := { program := "ytcfacldbmnlmoaa", sum := "294572ebc6e005e20f6872ea746f9501554b4a6d754671a87f3fc53f13d4bc32", func := "loop.example/schemamigration/laws.FnValidJob", spec := "fnValidJob", apart := false }
def FnValidJobSaid : Prop := fnValidJobRow.holds Try.pinned (OpenSpec.ofChange fnValidJobSpec)

/-- ITS FALSE NEIGHBOUR: 'it returns false'. Refute it at one input. -/
def fnValidJobWrong : ChangeSpec := { name := "fnValidJob", fn := fun _ => fun
  | [d] => { results := [.lit (.bool false)], args := [d] }
  | _ => none }
def FnValidJobWrongFalsely : Prop := fnValidJobRow.holds Try.pinned (OpenSpec.ofChange fnValidJobWrong)

/-- 'laws.FnStepJobStop': WHATEVER THE INPUT: true; the input reads as it did. -/
def fnStepJobStopSpec : ChangeSpec := { name := "fnStepJobStop", fn := fun _ => fun
  | [d] => { results := [.lit (.bool true)], args := [d] }
  | _ => none }
def fnStepJobStopRow : OpenClaim := { program := "ytcfacldbmnlmoaa", sum := "294572ebc6e005e20f6872ea746f9501554b4a6d754671a87f3fc53f13d4bc32", func := "loop.example/schemamigration/laws.FnStepJobStop", spec := "fnStepJobStop", apart := false }
def FnStepJobStopSaid : Prop := fnStepJobStopRow.holds Try.pinned (OpenSpec.ofChange fnStepJobStopSpec)

/-- ITS FALSE NEIGHBOUR: 'it returns false'. Refute it at one input. -/
def fnStepJobStopWrong : ChangeSpec := { name := "fnStepJobStop", fn := fun _ => fun
  | [d] => { results := [.lit (.bool false)], args := [d] }
  | _ => none }
def FnStepJobStopWrongFalsely : Prop := fnStepJobStopRow.holds Try.pinned (OpenSpec.ofChange fnStepJobStopWrong)

/-- 'laws.FnWorkLeftStep': WHATEVER THE INPUT: true; the input reads as it did. -/
def fnWorkLeftStepSpec : ChangeSpec := { name := "fnWorkLeftStep", fn := fun _ => fun
  | [d] => { results := [.lit (.bool true)], args := [d] }
  | _ => none }
def fnWorkLeftStepRow : OpenClaim := { program := "ytcfacldbmnlmoaa", sum := "294572ebc6e005e20f6872ea746f9501554b4a6d754671a87f3fc53f13d4bc32", func := "loop.example/schemamigration/laws.FnWorkLeftStep", spec := "fnWorkLeftStep", apart := false }
def FnWorkLeftStepSaid : Prop := fnWorkLeftStepRow.holds Try.pinned (OpenSpec.ofChange fnWorkLeftStepSpec)

/-- ITS FALSE NEIGHBOUR: 'it returns false'. Refute it at one input. -/
def fnWorkLeftStepWrong : ChangeSpec := { name := "fnWorkLeftStep", fn := fun _ => fun
  | [d] => { results := [.lit (.bool false)], args := [d] }
  | _ => none }
def FnWorkLeftStepWrongFalsely : Prop := fnWorkLeftStepRow.holds Try.pinned (OpenSpec.ofChange fnWorkLeftStepWrong)

/-- 'laws.FnWorkLeft': WHATEVER THE INPUT: true; the input reads as it did. -/
def fnWorkLeftSpec : ChangeSpec := { name := "fnWorkLeft", fn := fun _ => fun
  | [d] => { results := [.lit (.bool true)], args := [d] }
  | _ => none }
def fnWorkLeftRow : OpenClaim := { program := "ytcfacldbmnlmoaa", sum := "294572ebc6e005e20f6872ea746f9501554b4a6d754671a87f3fc53f13d4bc32", func := "loop.example/schemamigration/laws.FnWorkLeft", spec := "fnWorkLeft", apart := false }
def FnWorkLeftSaid : Prop := fnWorkLeftRow.holds Try.pinned (OpenSpec.ofChange fnWorkLeftSpec)

/-- ITS FALSE NEIGHBOUR: 'it returns false'. Refute it at one input. -/
def fnWorkLeftWrong : ChangeSpec := { name := "fnWorkLeft", fn := fun _ => fun
  | [d] => { results := [.lit (.bool false)], args := [d] }
  | _ => none }
def FnWorkLeftWrongFalsely : Prop := fnWorkLeftRow.holds Try.pinned (OpenSpec.ofChange fnWorkLeftWrong)

/- THE SECOND FORM. 'bulk': how many values and letters a reading holds, each counted each time it is reached (what is shared counts as often as it is met; a slice's spare places count too). A statement '..UptoSaid' is the law's where the arguments, and the package variables that the reading takes, are together of bulk at most 1048576: NARROWER than '..Said'. Prove '..Said' where nothing that the law and all that it calls make is longer than what came in: it says more and counts as full. Else prove '..UptoSaid'. A law counts once. -/
mutual
def uptoBulk {H : Type} : DataW H → Nat
  | .lit (.string bytes) => bytes.length + 1
  | .lit _ => 1
  | .nil => 1
  | .ptr d => uptoBulk d + 1
  | .slice elems spare => uptoBulkAll elems + uptoBulkAll spare + 1
  | .agg parts => uptoBulkAll parts + 1
  | .iface _ d => uptoBulk d + 1
  | .map entries => uptoBulkEntries entries + 1
  | .held _ => 1
def uptoBulkAll {H : Type} : List (DataW H) → Nat
  | [] => 0
  | d :: r => uptoBulk d + uptoBulkAll r
def uptoBulkEntries {H : Type} : List (Lit × DataW H) → Nat
  | [] => 0
  | x :: r => uptoBulkEntry x + uptoBulkEntries r
def uptoBulkEntry {H : Type} : Lit × DataW H → Nat
  | (.string bytes, d) => bytes.length + uptoBulk d + 1
  | (_, d) => uptoBulk d + 1
 end
def uptoSmall : (H : Type) → List (DataW H) → Bool := fun _ ds => decide (uptoBulkAll ds ≤ 1048576)
def OpenSpec.upto (s : _root_.Go.ChangeSpec) : _root_.Go.OpenSpec := { _root_.Go.OpenSpec.ofChange s with cond := some uptoSmall }

/-- 'laws.FnExactValidJob', WHERE WHAT IT READS IS OF BULK AT MOST 1048576: true; the input reads as it did. -/
def fnExactValidJobUptoRow : OpenClaim := { program := "ytcfacldbmnlmoaa", sum := "294572ebc6e005e20f6872ea746f9501554b4a6d754671a87f3fc53f13d4bc32", func := "loop.example/schemamigration/laws.FnExactValidJob", spec := "fnExactValidJob", apart := false, narrowed := true }
def FnExactValidJobUptoSaid : Prop := fnExactValidJobUptoRow.holds Try.pinned (OpenSpec.upto fnExactValidJobSpec)

/-- 'laws.FnExactWorkLeft', WHERE WHAT IT READS IS OF BULK AT MOST 1048576: true; the input reads as it did. -/
def fnExactWorkLeftUptoRow : OpenClaim := { program := "ytcfacldbmnlmoaa", sum := "294572ebc6e005e20f6872ea746f9501554b4a6d754671a87f3fc53f13d4bc32", func := "loop.example/schemamigration/laws.FnExactWorkLeft", spec := "fnExactWorkLeft", apart := false, narrowed := true }
def FnExactWorkLeftUptoSaid : Prop := fnExactWorkLeftUptoRow.holds Try.pinned (OpenSpec.upto fnExactWorkLeftSpec)

/-- 'laws.FnExactCrashJob', WHERE WHAT IT READS IS OF BULK AT MOST 1048576: true; the input reads as it did. -/
def fnExactCrashJobUptoRow : OpenClaim := { program := "ytcfacldbmnlmoaa", sum := "294572ebc6e005e20f6872ea746f9501554b4a6d754671a87f3fc53f13d4bc32", func := "loop.example/schemamigration/laws.FnExactCrashJob", spec := "fnExactCrashJob", apart := false, narrowed := true }
def FnExactCrashJobUptoSaid : Prop := fnExactCrashJobUptoRow.holds Try.pinned (OpenSpec.upto fnExactCrashJobSpec)

/-- 'laws.FnExactStepJob', WHERE WHAT IT READS IS OF BULK AT MOST 1048576: true; the input reads as it did. -/
def fnExactStepJobUptoRow : OpenClaim := { program := "ytcfacldbmnlmoaa", sum := "294572ebc6e005e20f6872ea746f9501554b4a6d754671a87f3fc53f13d4bc32", func := "loop.example/schemamigration/laws.FnExactStepJob", spec := "fnExactStepJob", apart := false, narrowed := true }
def FnExactStepJobUptoSaid : Prop := fnExactStepJobUptoRow.holds Try.pinned (OpenSpec.upto fnExactStepJobSpec)

/-- 'laws.FnCrashJob', WHERE WHAT IT READS IS OF BULK AT MOST 1048576: true; the input reads as it did. -/
def fnCrashJobUptoRow : OpenClaim := { program := "ytcfacldbmnlmoaa", sum := "294572ebc6e005e20f6872ea746f9501554b4a6d754671a87f3fc53f13d4bc32", func := "loop.example/schemamigration/laws.FnCrashJob", spec := "fnCrashJob", apart := false, narrowed := true }
def FnCrashJobUptoSaid : Prop := fnCrashJobUptoRow.holds Try.pinned (OpenSpec.upto fnCrashJobSpec)

/-- 'laws.FnStepJob', WHERE WHAT IT READS IS OF BULK AT MOST 1048576: true; the input reads as it did. -/
def fnStepJobUptoRow : OpenClaim := { program := "ytcfacldbmnlmoaa", sum := "294572ebc6e005e20f6872ea746f9501554b4a6d754671a87f3fc53f13d4bc32", func := "loop.example/schemamigration/laws.FnStepJob", spec := "fnStepJob", apart := false, narrowed := true }
def FnStepJobUptoSaid : Prop := fnStepJobUptoRow.holds Try.pinned (OpenSpec.upto fnStepJobSpec)

/-- 'laws.FnValidJob', WHERE WHAT IT READS IS OF BULK AT MOST 1048576: true; the input reads as it did. -/
def fnValidJobUptoRow : OpenClaim := { program := "ytcfacldbmnlmoaa", sum := "294572ebc6e005e20f6872ea746f9501554b4a6d754671a87f3fc53f13d4bc32", func := "loop.example/schemamigration/laws.FnValidJob", spec := "fnValidJob", apart := false, narrowed := true }
def FnValidJobUptoSaid : Prop := fnValidJobUptoRow.holds Try.pinned (OpenSpec.upto fnValidJobSpec)

/-- 'laws.FnStepJobStop', WHERE WHAT IT READS IS OF BULK AT MOST 1048576: true; the input reads as it did. -/
def fnStepJobStopUptoRow : OpenClaim := { program := "ytcfacldbmnlmoaa", sum := "294572ebc6e005e20f6872ea746f9501554b4a6d754671a87f3fc53f13d4bc32", func := "loop.example/schemamigration/laws.FnStepJobStop", spec := "fnStepJobStop", apart := false, narrowed := true }
def FnStepJobStopUptoSaid : Prop := fnStepJobStopUptoRow.holds Try.pinned (OpenSpec.upto fnStepJobStopSpec)

/-- 'laws.FnWorkLeftStep', WHERE WHAT IT READS IS OF BULK AT MOST 1048576: true; the input reads as it did. -/
def fnWorkLeftStepUptoRow : OpenClaim := { program := "ytcfacldbmnlmoaa", sum := "294572ebc6e005e20f6872ea746f9501554b4a6d754671a87f3fc53f13d4bc32", func := "loop.example/schemamigration/laws.FnWorkLeftStep", spec := "fnWorkLeftStep", apart := false, narrowed := true }
def FnWorkLeftStepUptoSaid : Prop := fnWorkLeftStepUptoRow.holds Try.pinned (OpenSpec.upto fnWorkLeftStepSpec)

/-- 'laws.FnWorkLeft', WHERE WHAT IT READS IS OF BULK AT MOST 1048576: true; the input reads as it did. -/
def fnWorkLeftUptoRow : OpenClaim := { program := "ytcfacldbmnlmoaa", sum := "294572ebc6e005e20f6872ea746f9501554b4a6d754671a87f3fc53f13d4bc32", func := "loop.example/schemamigration/laws.FnWorkLeft", spec := "fnWorkLeft", apart := false, narrowed := true }
def FnWorkLeftUptoSaid : Prop := fnWorkLeftUptoRow.holds Try.pinned (OpenSpec.upto fnWorkLeftSpec)

end Rows
end Go.Proofs.Ytcfacldbmnlmoaa
