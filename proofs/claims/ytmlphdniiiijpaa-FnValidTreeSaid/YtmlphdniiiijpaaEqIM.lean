/-
  equalItems and equalMoves at equal lists.
-/
import Derived.Test.YtmlphdniiiijpaaSpecI
set_option linter.all false
namespace Go.Proofs.Ytmlphdniiiijpaa
open Go.RowKit
set_option maxHeartbeats 4000000 in
theorem equalItems_same (v v' : Value) (l : List Itm) (w : World) (h : Itms w v l) (h' : Itms w v' l) :
    Calls Try.prog 20 #[v, v'] w fun x w' => x = .returned (.bool true) ∧ Below w.heap.size w w' := by
  obtain ⟨a, cap, rfl, hl, hcap, hd⟩ := h
  obtain ⟨a', cap', rfl, hl', hcap', hd'⟩ := h'
  go_enter Try.func20, Try.ntmps20
  go_wp2_with fail
  go_loopg [5] l.length (fun gk s5 wr => Below w.heap.size w wr ∧ ∃ k : Nat, k + gk = l.length ∧ s5 = .int .i64 (k : Int))
  case atStart => exact ⟨Below.refl _ _, 0, by omega, rfl⟩
  case round =>
    obtain ⟨hbw, k, hk, rfl⟩ := hrel
    have HW := hide hbw
    by_cases hlt : k < l.length
    · obtain ⟨b, off, rfl, hbb, hcell⟩ := hd.resolve_left (by rintro rfl; simp at hlt)
      obtain ⟨b', off', rfl, hbb', hcell'⟩ := hd'.resolve_left (by rintro rfl; simp at hlt)
      obtain ⟨e0, e1⟩ := (hcell k hlt).keep hbw
      obtain ⟨f0, f1⟩ := (hcell' k hlt).keep hbw
      have hneq : ∀ z, (binOp .neq 38 (.agg #[.int .i64 l[k].k, .int .i64 l[k].r]) (.agg #[.int .i64 l[k].k, .int .i64 l[k].r])).run Try.prog z = .ok (.bool false) z := fun z => by rw [neq_itm]; simp
      have hgd := guard_itm .neq l[k] l[k]
      clear hcell hd hcell' hd' hbw
      generalize l[k] = e at *
      go_wp2_with fail
      go_quiet (fail)
      clear hneq hgd
      go_wp2_with fail
      go_roundg (gk - 1)
      case measure => omega
      case rel => exact ⟨below_drewN HW.out _, k + 1, by omega, by go_num⟩
    · clear hd hd' hbw
      go_wp2_with fail
      go_ret
      exact ⟨rfl, HW.out⟩
end Go.Proofs.Ytmlphdniiiijpaa
