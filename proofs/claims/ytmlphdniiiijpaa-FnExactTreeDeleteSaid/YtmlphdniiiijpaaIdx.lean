/-
  slices.Clone at items; sorted and IndexOf of the program; IndexOf of the specification.
-/
import Derived.Test.YtmlphdniiiijpaaVRows
import Derived.Test.YtmlphdniiiijpaaCloneI
import Derived.Test.YtmlphdniiiijpaaSortI
set_option linter.all false
namespace Go.Proofs.Ytmlphdniiiijpaa
open Go.RowKit
def IdxOf (l r : List Itm) : Prop := (vRows l → r = ordL l) ∧ (¬ vRows l → r = [])
def IdxRet (w : World) (l : List Itm) (e : Ending) (w' : World) : Prop := ∃ v' r, e = .returned v' ∧ IdxOf l r ∧ OwnI w.heap.size w' v' r ∧ Below w.heap.size w w'
theorem IdxOf.uniq {l r r' : List Itm} (h : IdxOf l r) (h' : IdxOf l r') : r = r' := by
  by_cases c : vRows l
  · rw [h.1 c, h'.1 c]
  · rw [h.2 c, h'.2 c]
theorem IdxOf.len {l r : List Itm} (h : IdxOf l r) : r.length ≤ 200 := by
  by_cases c : vRows l
  · rw [h.1 c, ordL_len_eq (asc_nodup c.2.2)]; have := c.1; omega
  · rw [h.2 c]; simp
end Go.Proofs.Ytmlphdniiiijpaa
