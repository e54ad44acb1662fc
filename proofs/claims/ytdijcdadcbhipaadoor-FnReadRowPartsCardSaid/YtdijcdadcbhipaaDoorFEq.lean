/-
  equalFormat and equalRow at equal lists.
-/
import Derived.Test.YtdijcdadcbhipaaDoorFWid
import Derived.Laws.StructEq
import Derived.BigQuiet
import Derived.Deep.QuietTactic
set_option linter.all false
namespace Go.Proofs.YtdijcdadcbhipaaDoor
open Go.RowKit
theorem eqin_val (n : Nat) (e : RVal) (w : World) : (Op.equalIn (n + 3) 25 (.agg #[.int .i64 e.k, .int .i64 e.n, .string e.s]) (.agg #[.int .i64 e.k, .int .i64 e.n, .string e.s])).run Tryd.prog w = .ok true w := by
  have us := Tryd.underlying9
  have ui := Tryd.underlying3
  have hS : Tryd.prog.underlying 25 = some (.struct (Tryd.prog.fieldsOf 25)) := by kernel_rfl
  have hp : Tryd.prog.stoodInHeld 25 = false := by kernel_rfl
  rw [run_equalIn_agg w (n + 2) 25 _ _ hS hp]
  simp only [Program.fieldsOf, Tryd.underlying25]
  go_simp
theorem neq_val (e : RVal) (w : World) : (binOp .neq 25 (.agg #[.int .i64 e.k, .int .i64 e.n, .string e.s]) (.agg #[.int .i64 e.k, .int .i64 e.n, .string e.s])).run Tryd.prog w = .ok (.bool false) w := by
  have us := Tryd.underlying9
  have ui := Tryd.underlying3
  have hS : Tryd.prog.underlying 25 = some (.struct (Tryd.prog.fieldsOf 25)) := by kernel_rfl
  have hp : Tryd.prog.stoodInHeld 25 = false := by kernel_rfl
  rw [run_neq_struct, show (10000 : Nat) = 9999 + 1 from rfl, run_equalIn_agg w 9999 25 _ _ hS hp]
  simp only [Program.fieldsOf, Tryd.underlying25]
  go_simp
theorem guard_val (e : RVal) (x y : Operand) (w : World) : (eqGuard .neq 25 x y (.agg #[.int .i64 e.k, .int .i64 e.n, .string e.s]) (.agg #[.int .i64 e.k, .int .i64 e.n, .string e.s])).run Tryd.prog w = .ok () w :=
  run_eqGuard_agg w .neq 25 x y _ _ (by kernel_rfl)
theorem neq_col (e : RCol) (w : World) : (binOp .neq 27 (.agg #[.int .i64 e.k, .int .i64 e.d.k, .int .i64 e.d.n, .string e.d.s]) (.agg #[.int .i64 e.k, .int .i64 e.d.k, .int .i64 e.d.n, .string e.d.s])).run Tryd.prog w = .ok (.bool false) w := by
  have us := Tryd.underlying9
  have ui := Tryd.underlying3
  have hS : Tryd.prog.underlying 27 = some (.struct (Tryd.prog.fieldsOf 27)) := by kernel_rfl
  have hp : Tryd.prog.stoodInHeld 27 = false := by kernel_rfl
  have hv := eqin_val 9995 e.d
  rw [run_neq_struct, show (10000 : Nat) = 9999 + 1 from rfl, run_equalIn_agg w 9999 27 _ _ hS hp]
  simp only [Program.fieldsOf, Tryd.underlying27]
  go_simp
theorem guard_col (e : RCol) (x y : Operand) (w : World) : (eqGuard .neq 27 x y (.agg #[.int .i64 e.k, .int .i64 e.d.k, .int .i64 e.d.n, .string e.d.s]) (.agg #[.int .i64 e.k, .int .i64 e.d.k, .int .i64 e.d.n, .string e.d.s])).run Tryd.prog w = .ok () w :=
  run_eqGuard_agg w .neq 27 x y _ _ (by kernel_rfl)
set_option maxHeartbeats 4000000 in
theorem eqC_same (v v' : Value) (l : List RCol) (w : World) (h : Recs cEnc 4 w v l) (h' : Recs cEnc 4 w v' l) :
    Calls Tryd.prog 18 #[v, v'] w fun x w' => x = .returned (.bool true) ∧ Below w.heap.size w w' := by
  obtain ⟨a, cap, rfl, hl, hcap, -, hd⟩ := h
  obtain ⟨a', cap', rfl, hl', hcap', -, hd'⟩ := h'
  go_enter Tryd.func18, Tryd.ntmps18
  go_wp2_with fail
  go_loopg [5] l.length (fun gk s5 wr => Below w.heap.size w wr ∧ ∃ k : Nat, k + gk = l.length ∧ s5 = .int .i64 (k : Int))
  case atStart => exact ⟨Below.refl _ _, 0, by omega, rfl⟩
  case round =>
    obtain ⟨hbw, k, hk, rfl⟩ := hrel
    have HW := hide hbw
    by_cases hlt : k < l.length
    · obtain ⟨b, off, rfl, hbb, hcell⟩ := hd.resolve_left (by rintro rfl; simp at hlt)
      obtain ⟨b', off', rfl, hbb', hcell'⟩ := hd'.resolve_left (by rintro rfl; simp at hlt)
      have e := at4 (fun j u hu => (hbw.cell (p := ⟨b, _, none⟩) hbb).trans (hcell k hlt j u hu))
      have f := at4 (fun j u hu => (hbw.cell (p := ⟨b', _, none⟩) hbb').trans (hcell' k hlt j u hu))
      have hneq := neq_col l[k]
      have hgd := guard_col l[k]
      clear hcell hd hcell' hd' hbw
      generalize l[k] = c at *
      obtain ⟨e0, e1, e2, e3⟩ := e
      obtain ⟨f0, f1, f2, f3⟩ := f
      go_wp2_with fail
      go_quiet (fail)
      clear hneq hgd
      go_wp2_with fail
      go_roundg (gk - 1)
      case measure => omega
      case rel => exact ⟨below_drewN HW.out _, k + 1, by omega, by go_num⟩
    · clear hd hd' hbw
      go_wp2_with fail
      go_ret
      exact ⟨rfl, HW.out⟩
set_option maxHeartbeats 4000000 in
theorem eqV_same (v v' : Value) (l : List RVal) (w : World) (h : Recs vEnc 3 w v l) (h' : Recs vEnc 3 w v' l) :
    Calls Tryd.prog 34 #[v, v'] w fun x w' => x = .returned (.bool true) ∧ Below w.heap.size w w' := by
  obtain ⟨a, cap, rfl, hl, hcap, -, hd⟩ := h
  obtain ⟨a', cap', rfl, hl', hcap', -, hd'⟩ := h'
  go_enter Tryd.func34, Tryd.ntmps34
  go_wp2_with fail
  go_loopg [5] l.length (fun gk s5 wr => Below w.heap.size w wr ∧ ∃ k : Nat, k + gk = l.length ∧ s5 = .int .i64 (k : Int))
  case atStart => exact ⟨Below.refl _ _, 0, by omega, rfl⟩
  case round =>
    obtain ⟨hbw, k, hk, rfl⟩ := hrel
    have HW := hide hbw
    by_cases hlt : k < l.length
    · obtain ⟨b, off, rfl, hbb, hcell⟩ := hd.resolve_left (by rintro rfl; simp at hlt)
      obtain ⟨b', off', rfl, hbb', hcell'⟩ := hd'.resolve_left (by rintro rfl; simp at hlt)
      have e := at3 (fun j u hu => (hbw.cell (p := ⟨b, _, none⟩) hbb).trans (hcell k hlt j u hu))
      have f := at3 (fun j u hu => (hbw.cell (p := ⟨b', _, none⟩) hbb').trans (hcell' k hlt j u hu))
      have hneq := neq_val l[k]
      have hgd := guard_val l[k]
      clear hcell hd hcell' hd' hbw
      generalize l[k] = c at *
      obtain ⟨e0, e1, e2⟩ := e
      obtain ⟨f0, f1, f2⟩ := f
      go_wp2_with fail
      go_quiet (fail)
      clear hneq hgd
      go_wp2_with fail
      go_roundg (gk - 1)
      case measure => omega
      case rel => exact ⟨below_drewN HW.out _, k + 1, by omega, by go_num⟩
    · clear hd hd' hbw
      go_wp2_with fail
      go_ret
      exact ⟨rfl, HW.out⟩
end Go.Proofs.YtdijcdadcbhipaaDoor
