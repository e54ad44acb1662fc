/-
  heldEntryS: the marks are found again.
-/
import Derived.Test.YteikeljklfblmaaMark2
import Derived.Test.YteikeljklfblmaaCat5
set_option linter.all false
namespace Go.Proofs.Yteikeljklfblmaa
open Go.RowKit
set_option maxHeartbeats 4000000 in
theorem heldEntryS_any (g n m : Nat) (v : Value) (w : World) (hr : RowAt g w v (markL m n)) (h0 : 1 ≤ m) (h1 : m + 3 * n ≤ 9000000) :
    Calls Try.prog 35 #[v, .int .i64 (m : Int)] w (fun e w' => e = .returned (.int .i64 ((m + 3 * n : Nat) : Int)) ∧ Below w.heap.size w w') := by
  obtain ⟨a, cap, rfl, hn, hc, hd⟩ := hr
  rw [markL_len] at hn hd
  rw [markL_len]
  go_enter Try.func35, Try.ntmps35
  go_wp2_with fail
  go_loopg [1, 5] n (fun gk s1 s5 wr => Below w.heap.size w wr ∧ ∃ (k p : Nat), k + gk = n ∧ Hid (p = m + 3 * k) ∧ s1 = .int .i64 (p : Int) ∧ s5 = .int .i64 (k : Int))
  case atStart => exact ⟨Below.refl _ _, 0, m, by omega, hide (by omega), rfl, rfl⟩
  case round =>
    obtain ⟨hbw, k, p, hk, hp, rfl, rfl⟩ := hrel
    have HW := hide hbw
    by_cases hlt : k < n
    · obtain ⟨rfl, cs, hb, -, harr⟩ := hd.resolve_left (by intro h; have := congrArg List.length h; rw [markL_len] at this; simp at this; omega)
      obtain ⟨e0, e1, e2⟩ := harr k hlt (by rw [markL_len]; exact hlt)
      rw [markL_at] at e0 e1 e2
      rw [← hp.out] at e0 e1 e2
      have hp1 : 1 ≤ p := by have := hp.out; omega
      have hp2 : p ≤ 8999997 := by have := hp.out; omega
      have hbr := (hbw.block g (lt_block hb)).trans hb
      have lb := lt_block hbr
      rw [← cell_block hbr] at e0 e1 e2
      have d0 := fun z : BW wr => bw_cell (p := ⟨g, k * 3, none⟩) lb e0 z
      have HX1 := hide e1
      have HX2 := hide e2
      clear hd harr hb hbr hbw e0 e1 e2
      go_wp2_with fail
      refine wp_region_bw (by kernel_rfl) (by kernel_rfl) ?_
      repeat (go_big_quiet_step (first | (go_at_call 54; with_reducible exact bw_of (markText_any p hp1 (by omega) _))))
      refine wpQuiet_nil ?_
      rintro _ ⟨z, rfl⟩
      have H1 : Hid (Below w.heap.size w z.v) := HW.out.trans (z.h.mono HW.out.size)
      have e1 := fun z' : BW z.v => bw_cell (p := ⟨g, k * 3 + 1, none⟩) (Nat.lt_of_lt_of_le lb z.h.size) (bw_cell (p := ⟨g, k * 3 + 1, none⟩) lb HX1.out z) z'
      have HX2 := hide (bw_cell (p := ⟨g, k * 3 + 2, none⟩) lb HX2.out z)
      have lb := Nat.lt_of_lt_of_le lb z.h.size
      clear d0
      go_wp2_with fail
      refine wp_region_bw (by kernel_rfl) (by kernel_rfl) ?_
      repeat (go_big_quiet_step (first | (go_at_call 54; with_reducible exact bw_of (markText_at _ (p + 1) (by omega) (by omega) (by omega) _))))
      refine wpQuiet_nil ?_
      rintro _ ⟨z2, rfl⟩
      have H2 : Hid (Below w.heap.size w z2.v) := H1.out.trans (z2.h.mono H1.out.size)
      have e2 := bw_cell (p := ⟨g, k * 3 + 2, none⟩) lb HX2.out z2
      clear e1
      go_wp2_with fail
      go_roundg (gk - 1)
      case measure => omega
      case rel => exact ⟨H2.out, k + 1, p + 3, by omega, hide (by have := hp.out; omega), by go_num, by go_num⟩
    · have HE : Hid (k = n) := hide (by omega)
      clear hd hbw
      go_wp2_with fail
      go_ret
      have hkl := HE.out
      subst hkl
      exact ⟨by rw [hp.out]; rfl, HW.out⟩
end Go.Proofs.Yteikeljklfblmaa
