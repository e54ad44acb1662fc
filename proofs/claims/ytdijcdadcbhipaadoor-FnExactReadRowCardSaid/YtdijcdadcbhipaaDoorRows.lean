/-
  NARROWER THAN 'FOR EVERY INPUT', by the rows' own cells (each row's printed sentence says how): FnChangeFormat: laid · FnChangeFormatBack: laid · FnChangeFormatOthers: laid · FnExactChangeFormat: laid · FnChainOf: laid · FnChangeRowOthers: laid · FnChangeRow: laid · FnExactChangeRow: laid · FnExactChainOf: laid · FnReadRow: laid · FnReadRowParts: laid · FnExactReadRow: laid.
  DERIVED. THE GIVEN ROWS OF THIS SEAT. 12 by the template 'for every input the law returns true; each argument reads behind the call as it read before'; 0 by the template 'total and deterministic' (their statements: YtdijcdadcbhipaaDoorTotals.lean).
  GIVEN WITH THE SEED: the statements are not yours to turn. If you find one false, say at which input.
  Laid BY PROGRAM, IN A SANDBOX (cutbox-rows.mjs): the forced cells as the released guide's own fill.sh prints them over the translation dbfa2fb9ab8718aa… (all of the seat's roots in one cut). By AI agents, Wed Nov 11 2026. No macro, syntax, notation, axiom, sorry.
-/
import Derived.Test.YtdijcdadcbhipaaDoorChecked
import GoSem.Claim
import GoSem.ClaimJoined
import GoSem.ClaimMapViews
import Derived.JoinedTies
import Derived.KernelRfl
namespace Go.Proofs.YtdijcdadcbhipaaDoor
/- THE CELL 'sum', in the pinned program and in every row, IS THE sha256 OF THE DUMP (.gsa) THAT YtdijcdadcbhipaaDoorProg.lean LOADS. Nothing in Lean hashes anything: it is a label: what it is worth is what the hold of that sum in a sandbox is worth. -/
noncomputable def Tryd.pinned : Pinned := { name := "ytdijcdadcbhipaadoor", sum := "dbfa2fb9ab8718aa59c6c6367aa7ca2998b58571bfb953dcf611c3267a491dc0", checked := Tryd.checked }
namespace Rows
def none {H : Type} : Left H := { results := [], args := [] }

/- WHAT THE LISTED PACKAGE-LEVEL VARIABLES READ AS WHEN THE CALL BEGINS. Each datum BY PROGRAM (the guide's laid-datum.mjs) off the statement by which the dump's own 'gosem.cut.vars' lays the variable. In a bare row this is a premise. The card (YtdijcdadcbhipaaDoorCards.lean) ties it to the program's text. -/
def laid_math_bits_deBruijn32tab {H : Type} : DataW H := .agg [.lit (.int .u8 0), .lit (.int .u8 1), .lit (.int .u8 28), .lit (.int .u8 2), .lit (.int .u8 29), .lit (.int .u8 14), .lit (.int .u8 24), .lit (.int .u8 3), .lit (.int .u8 30), .lit (.int .u8 22), .lit (.int .u8 20), .lit (.int .u8 15), .lit (.int .u8 25), .lit (.int .u8 17), .lit (.int .u8 4), .lit (.int .u8 8), .lit (.int .u8 31), .lit (.int .u8 27), .lit (.int .u8 13), .lit (.int .u8 23), .lit (.int .u8 21), .lit (.int .u8 19), .lit (.int .u8 16), .lit (.int .u8 7), .lit (.int .u8 26), .lit (.int .u8 12), .lit (.int .u8 18), .lit (.int .u8 6), .lit (.int .u8 11), .lit (.int .u8 5), .lit (.int .u8 10), .lit (.int .u8 9)]
def laid_math_bits_deBruijn64tab {H : Type} : DataW H := .agg [.lit (.int .u8 0), .lit (.int .u8 1), .lit (.int .u8 56), .lit (.int .u8 2), .lit (.int .u8 57), .lit (.int .u8 49), .lit (.int .u8 28), .lit (.int .u8 3), .lit (.int .u8 61), .lit (.int .u8 58), .lit (.int .u8 42), .lit (.int .u8 50), .lit (.int .u8 38), .lit (.int .u8 29), .lit (.int .u8 17), .lit (.int .u8 4), .lit (.int .u8 62), .lit (.int .u8 47), .lit (.int .u8 59), .lit (.int .u8 36), .lit (.int .u8 45), .lit (.int .u8 43), .lit (.int .u8 51), .lit (.int .u8 22), .lit (.int .u8 53), .lit (.int .u8 39), .lit (.int .u8 33), .lit (.int .u8 30), .lit (.int .u8 24), .lit (.int .u8 18), .lit (.int .u8 12), .lit (.int .u8 5), .lit (.int .u8 63), .lit (.int .u8 55), .lit (.int .u8 48), .lit (.int .u8 27), .lit (.int .u8 60), .lit (.int .u8 41), .lit (.int .u8 37), .lit (.int .u8 16), .lit (.int .u8 46), .lit (.int .u8 35), .lit (.int .u8 44), .lit (.int .u8 21), .lit (.int .u8 52), .lit (.int .u8 32), .lit (.int .u8 23), .lit (.int .u8 11), .lit (.int .u8 54), .lit (.int .u8 26), .lit (.int .u8 40), .lit (.int .u8 15), .lit (.int .u8 34), .lit (.int .u8 20), .lit (.int .u8 31), .lit (.int .u8 10), .lit (.int .u8 25), .lit (.int .u8 14), .lit (.int .u8 19), .lit (.int .u8 9), .lit (.int .u8 13), .lit (.int .u8 8), .lit (.int .u8 7), .lit (.int .u8 6)]
def laid_internal_strconv_uint64pow10 {H : Type} : DataW H := .agg [.lit (.int .u64 1), .lit (.int .u64 10), .lit (.int .u64 100), .lit (.int .u64 1000), .lit (.int .u64 10000), .lit (.int .u64 100000), .lit (.int .u64 1000000), .lit (.int .u64 10000000), .lit (.int .u64 100000000), .lit (.int .u64 1000000000), .lit (.int .u64 10000000000), .lit (.int .u64 100000000000), .lit (.int .u64 1000000000000), .lit (.int .u64 10000000000000), .lit (.int .u64 100000000000000), .lit (.int .u64 1000000000000000), .lit (.int .u64 10000000000000000), .lit (.int .u64 100000000000000000), .lit (.int .u64 1000000000000000000), .lit (.int .u64 10000000000000000000)]

/-- 'laws.FnChangeFormat': WHATEVER THE INPUT: true; the input reads as it did. -/
def fnChangeFormatSpec : ChangeSpec := { name := "fnChangeFormat", fn := fun _ => fun
  | [d] => { results := [.lit (.bool true)], args := [d] }
  | _ => none }
def fnChangeFormatRow : OpenClaim := { program := "ytdijcdadcbhipaadoor", sum := "dbfa2fb9ab8718aa59c6c6367aa7ca2998b58571bfb953dcf611c3267a491dc0", func := "loop.example/schemamigration/laws.FnChangeFormat", spec := "fnChangeFormat", inPlace := ["slices.overlaps[loop.example/schemamigration/impl.Column]"], recurses := true, named := ["internal/strconv.uint64pow10", "math/bits.deBruijn32tab", "math/bits.deBruijn64tab"], apart := false, laid := [("math/bits.deBruijn32tab", laid_math_bits_deBruijn32tab), ("math/bits.deBruijn64tab", laid_math_bits_deBruijn64tab), ("internal/strconv.uint64pow10", laid_internal_strconv_uint64pow10)] }
def FnChangeFormatSaid : Prop := fnChangeFormatRow.holds Tryd.pinned (OpenSpec.ofChange fnChangeFormatSpec)

/-- ITS FALSE NEIGHBOUR: 'it returns false'. Refute it at one input. -/
def fnChangeFormatWrong : ChangeSpec := { name := "fnChangeFormat", fn := fun _ => fun
  | [d] => { results := [.lit (.bool false)], args := [d] }
  | _ => none }
def FnChangeFormatWrongFalsely : Prop := fnChangeFormatRow.holds Tryd.pinned (OpenSpec.ofChange fnChangeFormatWrong)

/-- 'laws.FnChangeFormatBack': WHATEVER THE INPUT: true; the input reads as it did. -/
def fnChangeFormatBackSpec : ChangeSpec := { name := "fnChangeFormatBack", fn := fun _ => fun
  | [d] => { results := [.lit (.bool true)], args := [d] }
  | _ => none }
def fnChangeFormatBackRow : OpenClaim := { program := "ytdijcdadcbhipaadoor", sum := "dbfa2fb9ab8718aa59c6c6367aa7ca2998b58571bfb953dcf611c3267a491dc0", func := "loop.example/schemamigration/laws.FnChangeFormatBack", spec := "fnChangeFormatBack", inPlace := ["slices.overlaps[loop.example/schemamigration/impl.Column]"], recurses := true, named := ["internal/strconv.uint64pow10", "math/bits.deBruijn32tab", "math/bits.deBruijn64tab"], apart := false, laid := [("math/bits.deBruijn32tab", laid_math_bits_deBruijn32tab), ("math/bits.deBruijn64tab", laid_math_bits_deBruijn64tab), ("internal/strconv.uint64pow10", laid_internal_strconv_uint64pow10)] }
def FnChangeFormatBackSaid : Prop := fnChangeFormatBackRow.holds Tryd.pinned (OpenSpec.ofChange fnChangeFormatBackSpec)

/-- ITS FALSE NEIGHBOUR: 'it returns false'. Refute it at one input. -/
def fnChangeFormatBackWrong : ChangeSpec := { name := "fnChangeFormatBack", fn := fun _ => fun
  | [d] => { results := [.lit (.bool false)], args := [d] }
  | _ => none }
def FnChangeFormatBackWrongFalsely : Prop := fnChangeFormatBackRow.holds Tryd.pinned (OpenSpec.ofChange fnChangeFormatBackWrong)

/-- 'laws.FnChangeFormatOthers': WHATEVER THE INPUT: true; the input reads as it did. -/
def fnChangeFormatOthersSpec : ChangeSpec := { name := "fnChangeFormatOthers", fn := fun _ => fun
  | [d] => { results := [.lit (.bool true)], args := [d] }
  | _ => none }
def fnChangeFormatOthersRow : OpenClaim := { program := "ytdijcdadcbhipaadoor", sum := "dbfa2fb9ab8718aa59c6c6367aa7ca2998b58571bfb953dcf611c3267a491dc0", func := "loop.example/schemamigration/laws.FnChangeFormatOthers", spec := "fnChangeFormatOthers", inPlace := ["slices.overlaps[loop.example/schemamigration/impl.Column]"], recurses := true, named := ["internal/strconv.uint64pow10", "math/bits.deBruijn32tab", "math/bits.deBruijn64tab"], apart := false, laid := [("math/bits.deBruijn32tab", laid_math_bits_deBruijn32tab), ("math/bits.deBruijn64tab", laid_math_bits_deBruijn64tab), ("internal/strconv.uint64pow10", laid_internal_strconv_uint64pow10)] }
def FnChangeFormatOthersSaid : Prop := fnChangeFormatOthersRow.holds Tryd.pinned (OpenSpec.ofChange fnChangeFormatOthersSpec)

/-- ITS FALSE NEIGHBOUR: 'it returns false'. Refute it at one input. -/
def fnChangeFormatOthersWrong : ChangeSpec := { name := "fnChangeFormatOthers", fn := fun _ => fun
  | [d] => { results := [.lit (.bool false)], args := [d] }
  | _ => none }
def FnChangeFormatOthersWrongFalsely : Prop := fnChangeFormatOthersRow.holds Tryd.pinned (OpenSpec.ofChange fnChangeFormatOthersWrong)

/-- 'laws.FnExactChangeFormat': WHATEVER THE INPUT: true; the input reads as it did. -/
def fnExactChangeFormatSpec : ChangeSpec := { name := "fnExactChangeFormat", fn := fun _ => fun
  | [d1, d2] => { results := [.lit (.bool true)], args := [d1, d2] }
  | _ => none }
def fnExactChangeFormatRow : OpenClaim := { program := "ytdijcdadcbhipaadoor", sum := "dbfa2fb9ab8718aa59c6c6367aa7ca2998b58571bfb953dcf611c3267a491dc0", func := "loop.example/schemamigration/laws.FnExactChangeFormat", spec := "fnExactChangeFormat", inPlace := ["slices.overlaps[loop.example/schemamigration/impl.Column]"], recurses := true, named := ["internal/strconv.uint64pow10", "math/bits.deBruijn32tab", "math/bits.deBruijn64tab"], apart := false, laid := [("math/bits.deBruijn32tab", laid_math_bits_deBruijn32tab), ("math/bits.deBruijn64tab", laid_math_bits_deBruijn64tab), ("internal/strconv.uint64pow10", laid_internal_strconv_uint64pow10)] }
def FnExactChangeFormatSaid : Prop := fnExactChangeFormatRow.holds Tryd.pinned (OpenSpec.ofChange fnExactChangeFormatSpec)

/-- ITS FALSE NEIGHBOUR: 'it returns false'. Refute it at one input. -/
def fnExactChangeFormatWrong : ChangeSpec := { name := "fnExactChangeFormat", fn := fun _ => fun
  | [d1, d2] => { results := [.lit (.bool false)], args := [d1, d2] }
  | _ => none }
def FnExactChangeFormatWrongFalsely : Prop := fnExactChangeFormatRow.holds Tryd.pinned (OpenSpec.ofChange fnExactChangeFormatWrong)

/-- 'laws.FnChainOf': WHATEVER THE INPUT: true; the input reads as it did. -/
def fnChainOfSpec : ChangeSpec := { name := "fnChainOf", fn := fun _ => fun
  | [d] => { results := [.lit (.bool true)], args := [d] }
  | _ => none }
def fnChainOfRow : OpenClaim := { program := "ytdijcdadcbhipaadoor", sum := "dbfa2fb9ab8718aa59c6c6367aa7ca2998b58571bfb953dcf611c3267a491dc0", func := "loop.example/schemamigration/laws.FnChainOf", spec := "fnChainOf", inPlace := ["slices.overlaps[loop.example/schemamigration/impl.Column]"], recurses := true, named := ["internal/strconv.uint64pow10", "math/bits.deBruijn32tab", "math/bits.deBruijn64tab"], apart := false, laid := [("math/bits.deBruijn32tab", laid_math_bits_deBruijn32tab), ("math/bits.deBruijn64tab", laid_math_bits_deBruijn64tab), ("internal/strconv.uint64pow10", laid_internal_strconv_uint64pow10)] }
def FnChainOfSaid : Prop := fnChainOfRow.holds Tryd.pinned (OpenSpec.ofChange fnChainOfSpec)

/-- ITS FALSE NEIGHBOUR: 'it returns false'. Refute it at one input. -/
def fnChainOfWrong : ChangeSpec := { name := "fnChainOf", fn := fun _ => fun
  | [d] => { results := [.lit (.bool false)], args := [d] }
  | _ => none }
def FnChainOfWrongFalsely : Prop := fnChainOfRow.holds Tryd.pinned (OpenSpec.ofChange fnChainOfWrong)

/-- 'laws.FnChangeRowOthers': WHATEVER THE INPUT: true; the input reads as it did. -/
def fnChangeRowOthersSpec : ChangeSpec := { name := "fnChangeRowOthers", fn := fun _ => fun
  | [d] => { results := [.lit (.bool true)], args := [d] }
  | _ => none }
def fnChangeRowOthersRow : OpenClaim := { program := "ytdijcdadcbhipaadoor", sum := "dbfa2fb9ab8718aa59c6c6367aa7ca2998b58571bfb953dcf611c3267a491dc0", func := "loop.example/schemamigration/laws.FnChangeRowOthers", spec := "fnChangeRowOthers", inPlace := ["slices.overlaps[loop.example/schemamigration/impl.Value]"], recurses := true, named := ["internal/strconv.uint64pow10", "math/bits.deBruijn32tab", "math/bits.deBruijn64tab"], apart := false, laid := [("math/bits.deBruijn32tab", laid_math_bits_deBruijn32tab), ("math/bits.deBruijn64tab", laid_math_bits_deBruijn64tab), ("internal/strconv.uint64pow10", laid_internal_strconv_uint64pow10)] }
def FnChangeRowOthersSaid : Prop := fnChangeRowOthersRow.holds Tryd.pinned (OpenSpec.ofChange fnChangeRowOthersSpec)

/-- ITS FALSE NEIGHBOUR: 'it returns false'. Refute it at one input. -/
def fnChangeRowOthersWrong : ChangeSpec := { name := "fnChangeRowOthers", fn := fun _ => fun
  | [d] => { results := [.lit (.bool false)], args := [d] }
  | _ => none }
def FnChangeRowOthersWrongFalsely : Prop := fnChangeRowOthersRow.holds Tryd.pinned (OpenSpec.ofChange fnChangeRowOthersWrong)

/-- 'laws.FnChangeRow': WHATEVER THE INPUT: true; the input reads as it did. -/
def fnChangeRowSpec : ChangeSpec := { name := "fnChangeRow", fn := fun _ => fun
  | [d] => { results := [.lit (.bool true)], args := [d] }
  | _ => none }
def fnChangeRowRow : OpenClaim := { program := "ytdijcdadcbhipaadoor", sum := "dbfa2fb9ab8718aa59c6c6367aa7ca2998b58571bfb953dcf611c3267a491dc0", func := "loop.example/schemamigration/laws.FnChangeRow", spec := "fnChangeRow", inPlace := ["slices.overlaps[loop.example/schemamigration/impl.Value]", "slices.overlaps[loop.example/schemamigration/impl.Column]"], recurses := true, named := ["internal/strconv.uint64pow10", "math/bits.deBruijn32tab", "math/bits.deBruijn64tab"], apart := false, laid := [("math/bits.deBruijn32tab", laid_math_bits_deBruijn32tab), ("math/bits.deBruijn64tab", laid_math_bits_deBruijn64tab), ("internal/strconv.uint64pow10", laid_internal_strconv_uint64pow10)] }
def FnChangeRowSaid : Prop := fnChangeRowRow.holds Tryd.pinned (OpenSpec.ofChange fnChangeRowSpec)

/-- ITS FALSE NEIGHBOUR: 'it returns false'. Refute it at one input. -/
def fnChangeRowWrong : ChangeSpec := { name := "fnChangeRow", fn := fun _ => fun
  | [d] => { results := [.lit (.bool false)], args := [d] }
  | _ => none }
def FnChangeRowWrongFalsely : Prop := fnChangeRowRow.holds Tryd.pinned (OpenSpec.ofChange fnChangeRowWrong)

/-- 'laws.FnExactChangeRow': WHATEVER THE INPUT: true; the input reads as it did. -/
def fnExactChangeRowSpec : ChangeSpec := { name := "fnExactChangeRow", fn := fun _ => fun
  | [d1, d2, d3] => { results := [.lit (.bool true)], args := [d1, d2, d3] }
  | _ => none }
def fnExactChangeRowRow : OpenClaim := { program := "ytdijcdadcbhipaadoor", sum := "dbfa2fb9ab8718aa59c6c6367aa7ca2998b58571bfb953dcf611c3267a491dc0", func := "loop.example/schemamigration/laws.FnExactChangeRow", spec := "fnExactChangeRow", inPlace := ["slices.overlaps[loop.example/schemamigration/impl.Value]"], recurses := true, named := ["internal/strconv.uint64pow10", "math/bits.deBruijn32tab", "math/bits.deBruijn64tab"], apart := false, laid := [("math/bits.deBruijn32tab", laid_math_bits_deBruijn32tab), ("math/bits.deBruijn64tab", laid_math_bits_deBruijn64tab), ("internal/strconv.uint64pow10", laid_internal_strconv_uint64pow10)] }
def FnExactChangeRowSaid : Prop := fnExactChangeRowRow.holds Tryd.pinned (OpenSpec.ofChange fnExactChangeRowSpec)

/-- ITS FALSE NEIGHBOUR: 'it returns false'. Refute it at one input. -/
def fnExactChangeRowWrong : ChangeSpec := { name := "fnExactChangeRow", fn := fun _ => fun
  | [d1, d2, d3] => { results := [.lit (.bool false)], args := [d1, d2, d3] }
  | _ => none }
def FnExactChangeRowWrongFalsely : Prop := fnExactChangeRowRow.holds Tryd.pinned (OpenSpec.ofChange fnExactChangeRowWrong)

/-- 'laws.FnExactChainOf': WHATEVER THE INPUT: true; the input reads as it did. -/
def fnExactChainOfSpec : ChangeSpec := { name := "fnExactChainOf", fn := fun _ => fun
  | [d1, d2] => { results := [.lit (.bool true)], args := [d1, d2] }
  | _ => none }
def fnExactChainOfRow : OpenClaim := { program := "ytdijcdadcbhipaadoor", sum := "dbfa2fb9ab8718aa59c6c6367aa7ca2998b58571bfb953dcf611c3267a491dc0", func := "loop.example/schemamigration/laws.FnExactChainOf", spec := "fnExactChainOf", inPlace := ["slices.overlaps[loop.example/schemamigration/impl.Column]"], recurses := true, named := ["internal/strconv.uint64pow10", "math/bits.deBruijn32tab", "math/bits.deBruijn64tab"], apart := false, laid := [("math/bits.deBruijn32tab", laid_math_bits_deBruijn32tab), ("math/bits.deBruijn64tab", laid_math_bits_deBruijn64tab), ("internal/strconv.uint64pow10", laid_internal_strconv_uint64pow10)] }
def FnExactChainOfSaid : Prop := fnExactChainOfRow.holds Tryd.pinned (OpenSpec.ofChange fnExactChainOfSpec)

/-- ITS FALSE NEIGHBOUR: 'it returns false'. Refute it at one input. -/
def fnExactChainOfWrong : ChangeSpec := { name := "fnExactChainOf", fn := fun _ => fun
  | [d1, d2] => { results := [.lit (.bool false)], args := [d1, d2] }
  | _ => none }
def FnExactChainOfWrongFalsely : Prop := fnExactChainOfRow.holds Tryd.pinned (OpenSpec.ofChange fnExactChainOfWrong)

/-- 'laws.FnReadRow': WHATEVER THE INPUT: true; the input reads as it did. -/
def fnReadRowSpec : ChangeSpec := { name := "fnReadRow", fn := fun _ => fun
  | [d] => { results := [.lit (.bool true)], args := [d] }
  | _ => none }
def fnReadRowRow : OpenClaim := { program := "ytdijcdadcbhipaadoor", sum := "dbfa2fb9ab8718aa59c6c6367aa7ca2998b58571bfb953dcf611c3267a491dc0", func := "loop.example/schemamigration/laws.FnReadRow", spec := "fnReadRow", inPlace := ["slices.overlaps[loop.example/schemamigration/impl.Column]", "slices.overlaps[loop.example/schemamigration/impl.Value]"], recurses := true, named := ["internal/strconv.uint64pow10", "math/bits.deBruijn32tab", "math/bits.deBruijn64tab"], apart := false, laid := [("math/bits.deBruijn32tab", laid_math_bits_deBruijn32tab), ("math/bits.deBruijn64tab", laid_math_bits_deBruijn64tab), ("internal/strconv.uint64pow10", laid_internal_strconv_uint64pow10)] }
def FnReadRowSaid : Prop := fnReadRowRow.holds Tryd.pinned (OpenSpec.ofChange fnReadRowSpec)

/-- ITS FALSE NEIGHBOUR: 'it returns false'. Refute it at one input. -/
def fnReadRowWrong : ChangeSpec := { name := "fnReadRow", fn := fun _ => fun
  | [d] => { results := [.lit (.bool false)], args := [d] }
  | _ => none }
def FnReadRowWrongFalsely : Prop := fnReadRowRow.holds Tryd.pinned (OpenSpec.ofChange fnReadRowWrong)

/-- 'laws.FnReadRowParts': WHATEVER THE INPUT: true; the input reads as it did. -/
def fnReadRowPartsSpec : ChangeSpec := { name := "fnReadRowParts", fn := fun _ => fun
  | [d] => { results := [.lit (.bool true)], args := [d] }
  | _ => none }
def fnReadRowPartsRow : OpenClaim := { program := "ytdijcdadcbhipaadoor", sum := "dbfa2fb9ab8718aa59c6c6367aa7ca2998b58571bfb953dcf611c3267a491dc0", func := "loop.example/schemamigration/laws.FnReadRowParts", spec := "fnReadRowParts", inPlace := ["slices.overlaps[loop.example/schemamigration/impl.Column]", "slices.overlaps[loop.example/schemamigration/impl.Value]"], recurses := true, named := ["internal/strconv.uint64pow10", "math/bits.deBruijn32tab", "math/bits.deBruijn64tab"], apart := false, laid := [("math/bits.deBruijn32tab", laid_math_bits_deBruijn32tab), ("math/bits.deBruijn64tab", laid_math_bits_deBruijn64tab), ("internal/strconv.uint64pow10", laid_internal_strconv_uint64pow10)] }
def FnReadRowPartsSaid : Prop := fnReadRowPartsRow.holds Tryd.pinned (OpenSpec.ofChange fnReadRowPartsSpec)

/-- ITS FALSE NEIGHBOUR: 'it returns false'. Refute it at one input. -/
def fnReadRowPartsWrong : ChangeSpec := { name := "fnReadRowParts", fn := fun _ => fun
  | [d] => { results := [.lit (.bool false)], args := [d] }
  | _ => none }
def FnReadRowPartsWrongFalsely : Prop := fnReadRowPartsRow.holds Tryd.pinned (OpenSpec.ofChange fnReadRowPartsWrong)

/-- 'laws.FnExactReadRow': WHATEVER THE INPUT: true; the input reads as it did. -/
def fnExactReadRowSpec : ChangeSpec := { name := "fnExactReadRow", fn := fun _ => fun
  | [d1, d2, d3, d4, d5] => { results := [.lit (.bool true)], args := [d1, d2, d3, d4, d5] }
  | _ => none }
def fnExactReadRowRow : OpenClaim := { program := "ytdijcdadcbhipaadoor", sum := "dbfa2fb9ab8718aa59c6c6367aa7ca2998b58571bfb953dcf611c3267a491dc0", func := "loop.example/schemamigration/laws.FnExactReadRow", spec := "fnExactReadRow", inPlace := ["slices.overlaps[loop.example/schemamigration/impl.Column]", "slices.overlaps[loop.example/schemamigration/impl.Value]"], recurses := true, named := ["internal/strconv.uint64pow10", "math/bits.deBruijn32tab", "math/bits.deBruijn64tab"], apart := false, laid := [("math/bits.deBruijn32tab", laid_math_bits_deBruijn32tab), ("math/bits.deBruijn64tab", laid_math_bits_deBruijn64tab), ("internal/strconv.uint64pow10", laid_internal_strconv_uint64pow10)] }
def FnExactReadRowSaid : Prop := fnExactReadRowRow.holds Tryd.pinned (OpenSpec.ofChange fnExactReadRowSpec)

/-- ITS FALSE NEIGHBOUR: 'it returns false'. Refute it at one input. -/
def fnExactReadRowWrong : ChangeSpec := { name := "fnExactReadRow", fn := fun _ => fun
  | [d1, d2, d3, d4, d5] => { results := [.lit (.bool false)], args := [d1, d2, d3, d4, d5] }
  | _ => none }
def FnExactReadRowWrongFalsely : Prop := fnExactReadRowRow.holds Tryd.pinned (OpenSpec.ofChange fnExactReadRowWrong)

/- THE SECOND FORM. 'bulk': how many values and letters a reading holds, each counted each time it is reached (what is shared counts as often as it is met; a slice's spare places count too). A statement '..UptoSaid' is the law's where the arguments, and the package variables that the reading takes, are together of bulk at most 1048576: NARROWER than '..Said'. Prove '..Said' where nothing that the law and all that it calls make is longer than what came in: it says more and counts as full. Else prove '..UptoSaid'. A law counts once. -/
mutual
def uptoBulk {H : Type} : DataW H → Nat
  | .lit (.string bytes) => bytes.length + 1
  | .lit _ => 1
  | .nil => 1
  | .ptr d => uptoBulk d + 1
  | .slice elems spare => uptoBulkAll elems + uptoBulkAll spare + 1
  | .agg parts => uptoBulkAll parts + 1
  | .iface _ d => uptoBulk d + 1
  | .map entries => uptoBulkEntries entries + 1
  | .held _ => 1
def uptoBulkAll {H : Type} : List (DataW H) → Nat
  | [] => 0
  | d :: r => uptoBulk d + uptoBulkAll r
def uptoBulkEntries {H : Type} : List (Lit × DataW H) → Nat
  | [] => 0
  | x :: r => uptoBulkEntry x + uptoBulkEntries r
def uptoBulkEntry {H : Type} : Lit × DataW H → Nat
  | (.string bytes, d) => bytes.length + uptoBulk d + 1
  | (_, d) => uptoBulk d + 1
 end
def uptoSmall : (H : Type) → List (DataW H) → Bool := fun _ ds => decide (uptoBulkAll ds ≤ 1048576)
def OpenSpec.upto (s : _root_.Go.ChangeSpec) : _root_.Go.OpenSpec := { _root_.Go.OpenSpec.ofChange s with cond := some uptoSmall }

/-- 'laws.FnChangeFormat', WHERE WHAT IT READS IS OF BULK AT MOST 1048576: true; the input reads as it did. -/
def fnChangeFormatUptoRow : OpenClaim := { program := "ytdijcdadcbhipaadoor", sum := "dbfa2fb9ab8718aa59c6c6367aa7ca2998b58571bfb953dcf611c3267a491dc0", func := "loop.example/schemamigration/laws.FnChangeFormat", spec := "fnChangeFormat", inPlace := ["slices.overlaps[loop.example/schemamigration/impl.Column]"], recurses := true, named := ["internal/strconv.uint64pow10", "math/bits.deBruijn32tab", "math/bits.deBruijn64tab"], apart := false, laid := [("math/bits.deBruijn32tab", laid_math_bits_deBruijn32tab), ("math/bits.deBruijn64tab", laid_math_bits_deBruijn64tab), ("internal/strconv.uint64pow10", laid_internal_strconv_uint64pow10)], narrowed := true }
def FnChangeFormatUptoSaid : Prop := fnChangeFormatUptoRow.holds Tryd.pinned (OpenSpec.upto fnChangeFormatSpec)

/-- 'laws.FnChangeFormatBack', WHERE WHAT IT READS IS OF BULK AT MOST 1048576: true; the input reads as it did. -/
def fnChangeFormatBackUptoRow : OpenClaim := { program := "ytdijcdadcbhipaadoor", sum := "dbfa2fb9ab8718aa59c6c6367aa7ca2998b58571bfb953dcf611c3267a491dc0", func := "loop.example/schemamigration/laws.FnChangeFormatBack", spec := "fnChangeFormatBack", inPlace := ["slices.overlaps[loop.example/schemamigration/impl.Column]"], recurses := true, named := ["internal/strconv.uint64pow10", "math/bits.deBruijn32tab", "math/bits.deBruijn64tab"], apart := false, laid := [("math/bits.deBruijn32tab", laid_math_bits_deBruijn32tab), ("math/bits.deBruijn64tab", laid_math_bits_deBruijn64tab), ("internal/strconv.uint64pow10", laid_internal_strconv_uint64pow10)], narrowed := true }
def FnChangeFormatBackUptoSaid : Prop := fnChangeFormatBackUptoRow.holds Tryd.pinned (OpenSpec.upto fnChangeFormatBackSpec)

/-- 'laws.FnChangeFormatOthers', WHERE WHAT IT READS IS OF BULK AT MOST 1048576: true; the input reads as it did. -/
def fnChangeFormatOthersUptoRow : OpenClaim := { program := "ytdijcdadcbhipaadoor", sum := "dbfa2fb9ab8718aa59c6c6367aa7ca2998b58571bfb953dcf611c3267a491dc0", func := "loop.example/schemamigration/laws.FnChangeFormatOthers", spec := "fnChangeFormatOthers", inPlace := ["slices.overlaps[loop.example/schemamigration/impl.Column]"], recurses := true, named := ["internal/strconv.uint64pow10", "math/bits.deBruijn32tab", "math/bits.deBruijn64tab"], apart := false, laid := [("math/bits.deBruijn32tab", laid_math_bits_deBruijn32tab), ("math/bits.deBruijn64tab", laid_math_bits_deBruijn64tab), ("internal/strconv.uint64pow10", laid_internal_strconv_uint64pow10)], narrowed := true }
def FnChangeFormatOthersUptoSaid : Prop := fnChangeFormatOthersUptoRow.holds Tryd.pinned (OpenSpec.upto fnChangeFormatOthersSpec)

/-- 'laws.FnExactChangeFormat', WHERE WHAT IT READS IS OF BULK AT MOST 1048576: true; the input reads as it did. -/
def fnExactChangeFormatUptoRow : OpenClaim := { program := "ytdijcdadcbhipaadoor", sum := "dbfa2fb9ab8718aa59c6c6367aa7ca2998b58571bfb953dcf611c3267a491dc0", func := "loop.example/schemamigration/laws.FnExactChangeFormat", spec := "fnExactChangeFormat", inPlace := ["slices.overlaps[loop.example/schemamigration/impl.Column]"], recurses := true, named := ["internal/strconv.uint64pow10", "math/bits.deBruijn32tab", "math/bits.deBruijn64tab"], apart := false, laid := [("math/bits.deBruijn32tab", laid_math_bits_deBruijn32tab), ("math/bits.deBruijn64tab", laid_math_bits_deBruijn64tab), ("internal/strconv.uint64pow10", laid_internal_strconv_uint64pow10)], narrowed := true }
def FnExactChangeFormatUptoSaid : Prop := fnExactChangeFormatUptoRow.holds Tryd.pinned (OpenSpec.upto fnExactChangeFormatSpec)

/-- 'laws.FnChainOf', WHERE WHAT IT READS IS OF BULK AT MOST 1048576: true; the input reads as it did. -/
def fnChainOfUptoRow : OpenClaim := { program := "ytdijcdadcbhipaadoor", sum := "dbfa2fb9ab8718aa59c6c6367aa7ca2998b58571bfb953dcf611c3267a491dc0", func := "loop.example/schemamigration/laws.FnChainOf", spec := "fnChainOf", inPlace := ["slices.overlaps[loop.example/schemamigration/impl.Column]"], recurses := true, named := ["internal/strconv.uint64pow10", "math/bits.deBruijn32tab", "math/bits.deBruijn64tab"], apart := false, laid := [("math/bits.deBruijn32tab", laid_math_bits_deBruijn32tab), ("math/bits.deBruijn64tab", laid_math_bits_deBruijn64tab), ("internal/strconv.uint64pow10", laid_internal_strconv_uint64pow10)], narrowed := true }
def FnChainOfUptoSaid : Prop := fnChainOfUptoRow.holds Tryd.pinned (OpenSpec.upto fnChainOfSpec)

/-- 'laws.FnChangeRowOthers', WHERE WHAT IT READS IS OF BULK AT MOST 1048576: true; the input reads as it did. -/
def fnChangeRowOthersUptoRow : OpenClaim := { program := "ytdijcdadcbhipaadoor", sum := "dbfa2fb9ab8718aa59c6c6367aa7ca2998b58571bfb953dcf611c3267a491dc0", func := "loop.example/schemamigration/laws.FnChangeRowOthers", spec := "fnChangeRowOthers", inPlace := ["slices.overlaps[loop.example/schemamigration/impl.Value]"], recurses := true, named := ["internal/strconv.uint64pow10", "math/bits.deBruijn32tab", "math/bits.deBruijn64tab"], apart := false, laid := [("math/bits.deBruijn32tab", laid_math_bits_deBruijn32tab), ("math/bits.deBruijn64tab", laid_math_bits_deBruijn64tab), ("internal/strconv.uint64pow10", laid_internal_strconv_uint64pow10)], narrowed := true }
def FnChangeRowOthersUptoSaid : Prop := fnChangeRowOthersUptoRow.holds Tryd.pinned (OpenSpec.upto fnChangeRowOthersSpec)

/-- 'laws.FnChangeRow', WHERE WHAT IT READS IS OF BULK AT MOST 1048576: true; the input reads as it did. -/
def fnChangeRowUptoRow : OpenClaim := { program := "ytdijcdadcbhipaadoor", sum := "dbfa2fb9ab8718aa59c6c6367aa7ca2998b58571bfb953dcf611c3267a491dc0", func := "loop.example/schemamigration/laws.FnChangeRow", spec := "fnChangeRow", inPlace := ["slices.overlaps[loop.example/schemamigration/impl.Value]", "slices.overlaps[loop.example/schemamigration/impl.Column]"], recurses := true, named := ["internal/strconv.uint64pow10", "math/bits.deBruijn32tab", "math/bits.deBruijn64tab"], apart := false, laid := [("math/bits.deBruijn32tab", laid_math_bits_deBruijn32tab), ("math/bits.deBruijn64tab", laid_math_bits_deBruijn64tab), ("internal/strconv.uint64pow10", laid_internal_strconv_uint64pow10)], narrowed := true }
def FnChangeRowUptoSaid : Prop := fnChangeRowUptoRow.holds Tryd.pinned (OpenSpec.upto fnChangeRowSpec)

/-- 'laws.FnExactChangeRow', WHERE WHAT IT READS IS OF BULK AT MOST 1048576: true; the input reads as it did. -/
def fnExactChangeRowUptoRow : OpenClaim := { program := "ytdijcdadcbhipaadoor", sum := "dbfa2fb9ab8718aa59c6c6367aa7ca2998b58571bfb953dcf611c3267a491dc0", func := "loop.example/schemamigration/laws.FnExactChangeRow", spec := "fnExactChangeRow", inPlace := ["slices.overlaps[loop.example/schemamigration/impl.Value]"], recurses := true, named := ["internal/strconv.uint64pow10", "math/bits.deBruijn32tab", "math/bits.deBruijn64tab"], apart := false, laid := [("math/bits.deBruijn32tab", laid_math_bits_deBruijn32tab), ("math/bits.deBruijn64tab", laid_math_bits_deBruijn64tab), ("internal/strconv.uint64pow10", laid_internal_strconv_uint64pow10)], narrowed := true }
def FnExactChangeRowUptoSaid : Prop := fnExactChangeRowUptoRow.holds Tryd.pinned (OpenSpec.upto fnExactChangeRowSpec)

/-- 'laws.FnExactChainOf', WHERE WHAT IT READS IS OF BULK AT MOST 1048576: true; the input reads as it did. -/
def fnExactChainOfUptoRow : OpenClaim := { program := "ytdijcdadcbhipaadoor", sum := "dbfa2fb9ab8718aa59c6c6367aa7ca2998b58571bfb953dcf611c3267a491dc0", func := "loop.example/schemamigration/laws.FnExactChainOf", spec := "fnExactChainOf", inPlace := ["slices.overlaps[loop.example/schemamigration/impl.Column]"], recurses := true, named := ["internal/strconv.uint64pow10", "math/bits.deBruijn32tab", "math/bits.deBruijn64tab"], apart := false, laid := [("math/bits.deBruijn32tab", laid_math_bits_deBruijn32tab), ("math/bits.deBruijn64tab", laid_math_bits_deBruijn64tab), ("internal/strconv.uint64pow10", laid_internal_strconv_uint64pow10)], narrowed := true }
def FnExactChainOfUptoSaid : Prop := fnExactChainOfUptoRow.holds Tryd.pinned (OpenSpec.upto fnExactChainOfSpec)

/-- 'laws.FnReadRow', WHERE WHAT IT READS IS OF BULK AT MOST 1048576: true; the input reads as it did. -/
def fnReadRowUptoRow : OpenClaim := { program := "ytdijcdadcbhipaadoor", sum := "dbfa2fb9ab8718aa59c6c6367aa7ca2998b58571bfb953dcf611c3267a491dc0", func := "loop.example/schemamigration/laws.FnReadRow", spec := "fnReadRow", inPlace := ["slices.overlaps[loop.example/schemamigration/impl.Column]", "slices.overlaps[loop.example/schemamigration/impl.Value]"], recurses := true, named := ["internal/strconv.uint64pow10", "math/bits.deBruijn32tab", "math/bits.deBruijn64tab"], apart := false, laid := [("math/bits.deBruijn32tab", laid_math_bits_deBruijn32tab), ("math/bits.deBruijn64tab", laid_math_bits_deBruijn64tab), ("internal/strconv.uint64pow10", laid_internal_strconv_uint64pow10)], narrowed := true }
def FnReadRowUptoSaid : Prop := fnReadRowUptoRow.holds Tryd.pinned (OpenSpec.upto fnReadRowSpec)

/-- 'laws.FnReadRowParts', WHERE WHAT IT READS IS OF BULK AT MOST 1048576: true; the input reads as it did. -/
def fnReadRowPartsUptoRow : OpenClaim := { program := "ytdijcdadcbhipaadoor", sum := "dbfa2fb9ab8718aa59c6c6367aa7ca2998b58571bfb953dcf611c3267a491dc0", func := "loop.example/schemamigration/laws.FnReadRowParts", spec := "fnReadRowParts", inPlace := ["slices.overlaps[loop.example/schemamigration/impl.Column]", "slices.overlaps[loop.example/schemamigration/impl.Value]"], recurses := true, named := ["internal/strconv.uint64pow10", "math/bits.deBruijn32tab", "math/bits.deBruijn64tab"], apart := false, laid := [("math/bits.deBruijn32tab", laid_math_bits_deBruijn32tab), ("math/bits.deBruijn64tab", laid_math_bits_deBruijn64tab), ("internal/strconv.uint64pow10", laid_internal_strconv_uint64pow10)], narrowed := true }
def FnReadRowPartsUptoSaid : Prop := fnReadRowPartsUptoRow.holds Tryd.pinned (OpenSpec.upto fnReadRowPartsSpec)

/-- 'laws.FnExactReadRow', WHERE WHAT IT READS IS OF BULK AT MOST 1048576: true; the input reads as it did. -/
def fnExactReadRowUptoRow : OpenClaim := { program := "ytdijcdadcbhipaadoor", sum := "dbfa2fb9ab8718aa59c6c6367aa7ca2998b58571bfb953dcf611c3267a491dc0", func := "loop.example/schemamigration/laws.FnExactReadRow", spec := "fnExactReadRow", inPlace := ["slices.overlaps[loop.example/schemamigration/impl.Column]", "slices.overlaps[loop.example/schemamigration/impl.Value]"], recurses := true, named := ["internal/strconv.uint64pow10", "math/bits.deBruijn32tab", "math/bits.deBruijn64tab"], apart := false, laid := [("math/bits.deBruijn32tab", laid_math_bits_deBruijn32tab), ("math/bits.deBruijn64tab", laid_math_bits_deBruijn64tab), ("internal/strconv.uint64pow10", laid_internal_strconv_uint64pow10)], narrowed := true }
def FnExactReadRowUptoSaid : Prop := fnExactReadRowUptoRow.holds Tryd.pinned (OpenSpec.upto fnExactReadRowSpec)

end Rows
end Go.Proofs.YtdijcdadcbhipaaDoor
