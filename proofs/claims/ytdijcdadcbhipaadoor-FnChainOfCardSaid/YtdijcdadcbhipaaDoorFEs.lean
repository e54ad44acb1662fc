/-
  equalFormats at equal lists of formats.
-/
import Derived.Test.YtdijcdadcbhipaaDoorFO
import Derived.Test.YtdijcdadcbhipaaDoorFEq
set_option linter.all false
namespace Go.Proofs.YtdijcdadcbhipaaDoor
open Go.RowKit
set_option maxHeartbeats 4000000 in
theorem eqL_same (v v' : Value) (L : List (List RCol)) (w : World) (h : Lvs w v L) (h' : Lvs w v' L) :
    Calls Tryd.prog 30 #[v, v'] w fun x w' => x = .returned (.bool true) ∧ Below w.heap.size w w' := by
  obtain ⟨a, cap, rfl, hl, hcap, hd⟩ := h
  obtain ⟨a', cap', rfl, hl', hcap', hd'⟩ := h'
  go_enter Tryd.func30, Tryd.ntmps30
  go_wp2_with fail
  go_loopg [5] L.length (fun gk s5 wr => Below w.heap.size w wr ∧ ∃ k : Nat, k + gk = L.length ∧ s5 = .int .i64 (k : Int))
  case atStart => exact ⟨Below.refl _ _, 0, by omega, rfl⟩
  case round =>
    obtain ⟨hbw, k, hk, rfl⟩ := hrel
    have HW := hide hbw
    by_cases hlt : k < L.length
    · obtain ⟨b, off, rfl, hbb, hcell⟩ := hd.resolve_left (by rintro rfl; simp at hlt)
      obtain ⟨b', off', rfl, hbb', hcell'⟩ := hd'.resolve_left (by rintro rfl; simp at hlt)
      obtain ⟨lv, c1, r1, -⟩ := hcell k hlt
      obtain ⟨lu, c2, r2, -⟩ := hcell' k hlt
      have e0 := fun z : BW wr => bw_cell (p := ⟨b, off + k, none⟩) (Nat.lt_of_lt_of_le hbb hbw.size) ((hbw.cell (p := ⟨b, off + k, none⟩) hbb).trans c1) z
      have f0 := fun z : BW wr => bw_cell (p := ⟨b', off' + k, none⟩) (Nat.lt_of_lt_of_le hbb' hbw.size) ((hbw.cell (p := ⟨b', off' + k, none⟩) hbb').trans c2) z
      have EE := hide (fun z : BW wr => eqC_same lv lu L[k] z.v ((r1.keep hbw).keep z.h) ((r2.keep hbw).keep z.h))
      obtain ⟨al, cl, rfl, -, -⟩ := r1.shape
      obtain ⟨au, cu, rfl, -, -⟩ := r2.shape
      clear hcell hd hcell' hd' hbw c1 c2 r1 r2
      go_wp2_with fail
      refine wp_region_bw (by kernel_rfl) (by kernel_rfl) ?_
      repeat (go_big_quiet_step (first | (go_at_call 18; with_reducible exact bw_of (EE.out _))))
      refine wpQuiet_nil ?_
      rintro _ ⟨z, rfl⟩
      have H1 : Hid (Below w.heap.size w z.v) := HW.out.trans (z.h.mono HW.out.size)
      go_wp2_with fail
      go_roundg (gk - 1)
      case measure => omega
      case rel => exact ⟨H1.out, k + 1, by omega, by go_num⟩
    · clear hd hd' hbw
      go_wp2_with fail
      go_ret
      exact ⟨rfl, HW.out⟩
end Go.Proofs.YtdijcdadcbhipaaDoor
