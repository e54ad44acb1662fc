/-
  equalEntries at equal catalogs.
-/
import Derived.Test.YteikeljklfblmaaCatDraw3
import Derived.Test.YteikeljklfblmaaCat5
import Derived.Laws.StructEq
import Derived.BigQuiet
import Derived.Deep.QuietTactic
set_option linter.all false
namespace Go.Proofs.Yteikeljklfblmaa
open Go.RowKit
theorem neq_ent (e : Ent) (w : World) : (binOp .neq 27 (.agg #[.string e.n, .string e.t, .int .i64 e.s]) (.agg #[.string e.n, .string e.t, .int .i64 e.s])).run Try.prog w = .ok (.bool false) w := by
  have us := Try.underlying9
  have ui := Try.underlying3
  have hS : Try.prog.underlying 27 = some (.struct (Try.prog.fieldsOf 27)) := by kernel_rfl
  have hp : Try.prog.stoodInHeld 27 = false := by kernel_rfl
  rw [run_neq_struct, show (10000 : Nat) = 9999 + 1 from rfl, run_equalIn_agg w 9999 27 _ _ hS hp]
  simp only [Program.fieldsOf, Try.underlying27]
  go_simp
theorem guard_ent (e : Ent) (x y : Operand) (w : World) : (eqGuard .neq 27 x y (.agg #[.string e.n, .string e.t, .int .i64 e.s]) (.agg #[.string e.n, .string e.t, .int .i64 e.s])).run Try.prog w = .ok () w :=
  run_eqGuard_agg w .neq 27 x y _ _ (by kernel_rfl)
set_option maxHeartbeats 4000000 in
theorem equalEntries_same (v v' : Value) (l : List Ent) (w : World) (h : Ents w v l) (h' : Ents w v' l) :
    Calls Try.prog 23 #[v, v'] w fun x w' => x = .returned (.bool true) ∧ Below w.heap.size w w' := by
  obtain ⟨a, cap, rfl, hl, hcap, hd⟩ := h
  obtain ⟨a', cap', rfl, hl', hcap', hd'⟩ := h'
  go_enter Try.func23, Try.ntmps23
  go_wp2_with fail
  go_loopg [5] l.length (fun gk s5 wr => Below w.heap.size w wr ∧ ∃ k : Nat, k + gk = l.length ∧ s5 = .int .i64 (k : Int))
  case atStart => exact ⟨Below.refl _ _, 0, by omega, rfl⟩
  case round =>
    obtain ⟨hbw, k, hk, rfl⟩ := hrel
    have HW := hide hbw
    by_cases hlt : k < l.length
    · obtain ⟨b, off, rfl, hbb, hcell⟩ := hd.resolve_left (by rintro rfl; simp at hlt)
      obtain ⟨b', off', rfl, hbb', hcell'⟩ := hd'.resolve_left (by rintro rfl; simp at hlt)
      obtain ⟨e0, e1, e2, -⟩ := (hcell k hlt).keep hbw
      obtain ⟨f0, f1, f2, -⟩ := (hcell' k hlt).keep hbw
      have hneq := neq_ent l[k]
      have hgd := guard_ent l[k]
      clear hcell hd hcell' hd' hbw
      generalize l[k] = e at *
      go_wp2_with fail
      go_quiet (fail)
      clear hneq hgd
      go_wp2_with fail
      go_roundg (gk - 1)
      case measure => omega
      case rel => exact ⟨below_drewN HW.out _, k + 1, by omega, by go_num⟩
    · clear hd hd' hbw
      go_wp2_with fail
      go_ret
      exact ⟨rfl, HW.out⟩
end Go.Proofs.Yteikeljklfblmaa
