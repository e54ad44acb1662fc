/-
  inRange of the specification.
-/
import Derived.Test.YtdijcdadcbhipaaDoorRows
import Derived.Test.YtdijcdadcbhipaaDoorBase
set_option linter.all false
namespace Go.Proofs.YtdijcdadcbhipaaDoor
open Go.RowKit
theorem inRange_any (n l h : Int) (w : World) :
    Calls Tryd.prog 83 #[.int .i64 n, .int .i64 l, .int .i64 h] w fun e w' => e = .returned (.bool (decide (l ≤ n ∧ n ≤ h))) ∧ w = w' := by
  go_enter Tryd.func83, Tryd.ntmps83
  go_wp2
  all_goals go_ret
  all_goals refine ⟨ret_bool ?_, rfl⟩
  all_goals first | (rw [decide_eq_true_iff.2 ?_]; omega) | (rw [decide_eq_false_iff_not.2 ?_]; omega) | (simp; omega)
theorem blk_by {w w' : World} {b g : Nat} {o : Obj} (hg : w.grownBy w' (some g)) (h : w.heap[b]? = some o) (hne : b ≠ g) : w'.heap[b]? = some o :=
  (hg.block b (lt_block h) (fun e => hne (by injection e))).trans h
end Go.Proofs.YtdijcdadcbhipaaDoor
