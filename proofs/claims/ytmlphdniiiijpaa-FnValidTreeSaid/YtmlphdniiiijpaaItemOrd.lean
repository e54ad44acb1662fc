/-
  ordered, validRows, IndexOf of the specification, and the generator of items.
-/
import Derived.Test.YtmlphdniiiijpaaItemPut
set_option linter.all false
namespace Go.Proofs.Ytmlphdniiiijpaa
open Go.RowKit
def ordL (l : List Itm) : List Itm := l.foldl putL []
theorem ordL_take {l : List Itm} {k : Nat} (h : k < l.length) : ordL (l.take (k + 1)) = putL (ordL (l.take k)) l[k] := by
  unfold ordL
  rw [List.take_succ_eq_append_getElem h, List.foldl_append]
  rfl
theorem ordL_len (l : List Itm) : ∀ k, k ≤ l.length → (ordL (l.take k)).length ≤ k := by
  intro k
  induction k with
  | zero => intro _; simp [ordL]
  | succ k ih =>
    intro hk
    rw [ordL_take (by omega)]
    have := putL_len (ordL (l.take k)) l[k]
    have := ih (by omega)
    omega
end Go.Proofs.Ytmlphdniiiijpaa
