/-
  setRow of the specification.
-/
import Derived.Test.YtmlphdniiiijpaaCloneI
set_option linter.all false
namespace Go.Proofs.Ytmlphdniiiijpaa
open Go.RowKit
theorem setRowL_len (l : List Itm) (m : RMove) : (setRowL l m).length ≤ l.length + 1 := by
  unfold setRowL
  have : ∀ l : List Itm, (l.filter (ltR m.row)).length + (l.filter (gtR m.row)).length ≤ l.length := by
    intro l
    induction l with
    | nil => simp
    | cons y l ih =>
      by_cases h1 : y.r < m.row
      · have h2 : ¬ m.row < y.r := by omega
        simp [List.filter_cons, ltR, gtR, h1, h2] at ih ⊢; omega
      · by_cases h2 : m.row < y.r <;> simp [List.filter_cons, ltR, gtR, h1, h2] at ih ⊢ <;> omega
  have := this l
  rw [List.length_append, List.length_append]
  split <;> simp <;> omega
end Go.Proofs.Ytmlphdniiiijpaa
