/-
  slices.Delete of one element, at Item.
-/
import Derived.Test.YtopdheombgajlaaBsi
import Derived.Test.YtopdheombgajlaaOwn
set_option linter.all false
namespace Go.Proofs.Ytopdheombgajlaa
open Go.RowKit
theorem infoDelItem : (Try.prog.info? 29).map (fun i => (i.zero, i.size, i.bytes)) = some (some (.agg #[.int .i64 0, .int .i64 0]), 2, 16) := by kernel_rfl
theorem zeroItem (w : World) : (zeroValue 29).run Try.prog w = .ok (.agg #[.int .i64 0, .int .i64 0]) w := by
  obtain ⟨i0, hi, hz0, -, -⟩ := info_parts infoDelItem
  simp [zeroValue, typeInfo, hi, hz0]
end Go.Proofs.Ytopdheombgajlaa
