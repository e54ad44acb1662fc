/-
  equalItems and equalMoves at equal lists.
-/
import Derived.Test.YtppbmhlmbepneaaSpecI
import Derived.Test.YtppbmhlmbepneaaOwnM
set_option linter.all false
namespace Go.Proofs.Ytppbmhlmbepneaa
open Go.RowKit
set_option maxHeartbeats 4000000 in
theorem equalItems_same (v v' : Value) (l : List Itm) (w : World) (h : Itms w v l) (h' : Itms w v' l) :
    Calls Try.prog 14 #[v, v'] w fun x w' => x = .returned (.bool true) ∧ Below w.heap.size w w' := by
  obtain ⟨a, cap, rfl, hl, hcap, hd⟩ := h
  obtain ⟨a', cap', rfl, hl', hcap', hd'⟩ := h'
  go_enter Try.func14, Try.ntmps14
  go_wp2_with fail
  go_loopg [5] l.length (fun gk s5 wr => Below w.heap.size w wr ∧ ∃ k : Nat, k + gk = l.length ∧ s5 = .int .i64 (k : Int))
  case atStart => exact ⟨Below.refl _ _, 0, by omega, rfl⟩
  case round =>
    obtain ⟨hbw, k, hk, rfl⟩ := hrel
    have HW := hide hbw
    by_cases hlt : k < l.length
    · obtain ⟨b, off, rfl, hbb, hcell⟩ := hd.resolve_left (by rintro rfl; simp at hlt)
      obtain ⟨b', off', rfl, hbb', hcell'⟩ := hd'.resolve_left (by rintro rfl; simp at hlt)
      obtain ⟨e0, e1⟩ := (hcell k hlt).keep hbw
      obtain ⟨f0, f1⟩ := (hcell' k hlt).keep hbw
      have hneq : ∀ z, (binOp .neq 29 (.agg #[.int .i64 l[k].k, .int .i64 l[k].r]) (.agg #[.int .i64 l[k].k, .int .i64 l[k].r])).run Try.prog z = .ok (.bool false) z := fun z => by rw [neq_itm]; simp
      have hgd := guard_itm .neq l[k] l[k]
      clear hcell hd hcell' hd' hbw
      generalize l[k] = e at *
      go_wp2_with fail
      go_quiet (fail)
      clear hneq hgd
      go_wp2_with fail
      go_roundg (gk - 1)
      case measure => omega
      case rel => exact ⟨below_drewN HW.out _, k + 1, by omega, by go_num⟩
    · clear hd hd' hbw
      go_wp2_with fail
      go_ret
      exact ⟨rfl, HW.out⟩
theorem neq_mv (e : RMove) (w : World) : (binOp .neq 42 (.agg #[.bool e.scan, .bool e.gone, .int .i64 e.row, .int .i64 e.key]) (.agg #[.bool e.scan, .bool e.gone, .int .i64 e.row, .int .i64 e.key])).run Try.prog w = .ok (.bool false) w := by
  have ub := Try.underlying4
  have ui := Try.underlying3
  have hS : Try.prog.underlying 42 = some (.struct (Try.prog.fieldsOf 42)) := by kernel_rfl
  have hp : Try.prog.stoodInHeld 42 = false := by kernel_rfl
  rw [run_neq_struct, show (10000 : Nat) = 9999 + 1 from rfl, run_equalIn_agg w 9999 42 _ _ hS hp]
  simp only [Program.fieldsOf, Try.underlying42]
  go_simp
theorem guard_mv (e : RMove) (x y : Operand) (w : World) : (eqGuard .neq 42 x y (.agg #[.bool e.scan, .bool e.gone, .int .i64 e.row, .int .i64 e.key]) (.agg #[.bool e.scan, .bool e.gone, .int .i64 e.row, .int .i64 e.key])).run Try.prog w = .ok () w :=
  run_eqGuard_agg w .neq 42 x y _ _ (by kernel_rfl)
set_option maxHeartbeats 4000000 in
theorem equalMoves_same (v v' : Value) (l : List RMove) (w : World) (h : Moves w v l) (h' : Moves w v' l) :
    Calls Try.prog 24 #[v, v'] w fun x w' => x = .returned (.bool true) ∧ Below w.heap.size w w' := by
  obtain ⟨a, cap, rfl, hl, hcap, hd⟩ := h
  obtain ⟨a', cap', rfl, hl', hcap', hd'⟩ := h'
  go_enter Try.func24, Try.ntmps24
  go_wp2_with fail
  go_loopg [5] l.length (fun gk s5 wr => Below w.heap.size w wr ∧ ∃ k : Nat, k + gk = l.length ∧ s5 = .int .i64 (k : Int))
  case atStart => exact ⟨Below.refl _ _, 0, by omega, rfl⟩
  case round =>
    obtain ⟨hbw, k, hk, rfl⟩ := hrel
    have HW := hide hbw
    by_cases hlt : k < l.length
    · obtain ⟨b, off, rfl, hbb, hcell⟩ := hd.resolve_left (by rintro rfl; simp at hlt)
      obtain ⟨b', off', rfl, hbb', hcell'⟩ := hd'.resolve_left (by rintro rfl; simp at hlt)
      obtain ⟨e0, e1, e2, e3⟩ := (hcell k hlt).keep hbw
      obtain ⟨f0, f1, f2, f3⟩ := (hcell' k hlt).keep hbw
      have hneq := neq_mv l[k]
      have hgd := guard_mv l[k]
      clear hcell hd hcell' hd' hbw
      generalize l[k] = e at *
      go_wp2_with fail
      go_quiet (fail)
      clear hneq hgd
      go_wp2_with fail
      go_roundg (gk - 1)
      case measure => omega
      case rel => exact ⟨below_drewN HW.out _, k + 1, by omega, by go_num⟩
    · clear hd hd' hbw
      go_wp2_with fail
      go_ret
      exact ⟨rfl, HW.out⟩
end Go.Proofs.Ytppbmhlmbepneaa
