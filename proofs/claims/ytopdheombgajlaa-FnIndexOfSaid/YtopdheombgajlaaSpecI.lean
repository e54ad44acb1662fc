/-
  holds, remove and at of the specification.
-/
import Derived.Test.YtopdheombgajlaaSetRow
import Derived.Test.YtopdheombgajlaaBS
import Derived.Test.YtopdheombgajlaaOnl2
import Derived.Laws.StructEq
import Derived.BigQuiet
import Derived.Deep.QuietTactic
set_option linter.all false
namespace Go.Proofs.Ytopdheombgajlaa
open Go.RowKit
theorem eql_itm (x y : Itm) (w : World) : (binOp .eql 29 (.agg #[.int .i64 x.k, .int .i64 x.r]) (.agg #[.int .i64 y.k, .int .i64 y.r])).run Try.prog w = .ok (.bool (x.k == y.k && x.r == y.r)) w := by
  have ui := Try.underlying3
  have hS : Try.prog.underlying 29 = some (.struct (Try.prog.fieldsOf 29)) := by kernel_rfl
  have hp : Try.prog.stoodInHeld 29 = false := by kernel_rfl
  rw [run_eql_struct, show (10000 : Nat) = 9999 + 1 from rfl, run_equalIn_agg w 9999 29 _ _ hS hp]
  simp only [Program.fieldsOf, Try.underlying29]
  by_cases h1 : x.k = y.k <;> by_cases h2 : x.r = y.r <;> (first | (go_simp; done) | (go_simp; simp [h1, h2]))
theorem neq_itm (x y : Itm) (w : World) : (binOp .neq 29 (.agg #[.int .i64 x.k, .int .i64 x.r]) (.agg #[.int .i64 y.k, .int .i64 y.r])).run Try.prog w = .ok (.bool (!(x.k == y.k && x.r == y.r))) w := by
  have ui := Try.underlying3
  have hS : Try.prog.underlying 29 = some (.struct (Try.prog.fieldsOf 29)) := by kernel_rfl
  have hp : Try.prog.stoodInHeld 29 = false := by kernel_rfl
  rw [run_neq_struct, show (10000 : Nat) = 9999 + 1 from rfl, run_equalIn_agg w 9999 29 _ _ hS hp]
  simp only [Program.fieldsOf, Try.underlying29]
  by_cases h1 : x.k = y.k <;> by_cases h2 : x.r = y.r <;> (first | (go_simp; done) | (go_simp; simp [h1, h2]))
theorem guard_itm (o : BinOp) (x y : Itm) (p q : Operand) (w : World) : (eqGuard o 29 p q (.agg #[.int .i64 x.k, .int .i64 x.r]) (.agg #[.int .i64 y.k, .int .i64 y.r])).run Try.prog w = .ok () w :=
  run_eqGuard_agg w o 29 p q _ _ (by kernel_rfl)
theorem hasI_take {l : List Itm} {x : Itm} {k : Nat} (h : k < l.length) : hasI (l.take (k + 1)) x = (hasI (l.take k) x || (l[k].k == x.k && l[k].r == x.r)) := by
  unfold hasI
  rw [List.take_succ_eq_append_getElem h, List.any_append]
  simp
theorem hasI_mem {l : List Itm} {x : Itm} {k : Nat} (h : k < l.length) (he : (l[k].k == x.k && l[k].r == x.r) = true) : hasI l x = true := by
  unfold hasI
  rw [List.any_eq_true]
  exact ⟨_, List.getElem_mem h, he⟩
/-- the index of a row with a number -/
def atN (l : List Itm) (n : Int) : Int := if hasR l n then ((l.findIdx (fun e => e.r == n) : Nat) : Int) else -1
end Go.Proofs.Ytopdheombgajlaa
