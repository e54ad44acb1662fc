/-
  The walks of the laws on drawn jobs.
-/
import Derived.Test.YtcfacldbmnlmoaaJobDraw2
import Derived.Test.YtcfacldbmnlmoaaQuiet
set_option linter.all false
namespace Go.Proofs.Ytcfacldbmnlmoaa
open Go.RowKit
theorem crash_det {s t d k x s1 t1 d1 k1 x1 s2 t2 d2 k2 x2 : Int}
    (h1 : (VJ s t d k x ∧ s1 = s ∧ t1 = t ∧ k1 = k ∧ x1 = x ∧ ((s = 1 ∧ d1 = k) ∨ (s ≠ 1 ∧ d1 = d))) ∨ (¬ VJ s t d k x ∧ s1 = 0 ∧ t1 = 0 ∧ d1 = 0 ∧ k1 = 0 ∧ x1 = 0))
    (h2 : (VJ s t d k x ∧ s2 = s ∧ t2 = t ∧ k2 = k ∧ x2 = x ∧ ((s = 1 ∧ d2 = k) ∨ (s ≠ 1 ∧ d2 = d))) ∨ (¬ VJ s t d k x ∧ s2 = 0 ∧ t2 = 0 ∧ d2 = 0 ∧ k2 = 0 ∧ x2 = 0)) :
    s2 = s1 ∧ t2 = t1 ∧ d2 = d1 ∧ k2 = k1 ∧ x2 = x1 := by
  rcases h1 with ⟨hv, h1⟩ | ⟨hv, h1⟩ <;> rcases h2 with ⟨hv2, h2⟩ | ⟨hv2, h2⟩
  · omega
  · exact absurd hv hv2
  · exact absurd hv2 hv
  · omega
set_option maxHeartbeats 2000000 in
set_option maxRecDepth 100000 in
theorem fnCrashJob_walk (v : Value) (w : World) (h : BytesAt w v) :
    Calls Try.prog 7 #[v] w fun e w' => e = .returned (.bool true) ∧ Below w.heap.size w w' := by
  have hB := hide h
  obtain ⟨a, len, cap, rfl, hlc, hcap, hr⟩ := h
  clear hr
  by_cases hlen : 1048576 < len
  · go_enter Try.func7, Try.ntmps7
    go_wp2_with fail
    go_ret
    exact ⟨rfl, Below.refl _ _⟩
  · go_enter Try.func7, Try.ntmps7
    go_wp2_with fail
    refine (drawCrashJob_any _ _ hB.out).mono ?_
    rintro e w1 ⟨s, t, d, k, x, rfl, hb1⟩
    have H1 := hide hb1
    have hs1 := hb1.size
    clear hb1
    go_wp2_with fail
    refine (iCrashJob_any _ _ _ _ _ _).mono ?_
    rintro e w2 ⟨s1, t1, d1, k1, x1, rfl, hc, hb2⟩
    rcases hc with ⟨hv, rfl, rfl, rfl, rfl, hc⟩ | ⟨hv, rfl, rfl, rfl, rfl, rfl⟩
    · rcases hc with ⟨rfl, rfl⟩ | ⟨hs, rfl⟩
      · have hvb : vjB 1 t1 d d1 x1 = true := vj_t hv
        have HV := hide hv
        have J2 := hide (blk_own hb2 (blk_alloc w1 _))
        have H2 : Hid (Below w.heap.size w w2) := (H1.out.alloc H1.out.size _).trans (hb2.mono (by simp; omega))
        have hs2 : w1.heap.size < w2.heap.size := lt_block J2.out
        have CS : Hid (∀ W : World, Calls Try.prog 18 #[(.agg #[.int .i64 1, .int .i64 t1, .int .i64 d, .int .i64 d1, .int .i64 x1])] W fun e w' => e = .returned (.agg #[.int .i64 1, .int .i64 t1, .int .i64 d1, .int .i64 d1, .int .i64 x1]) ∧ Below W.heap.size W w') := fun W => (sCrashJob_any 1 t1 d d1 x1 W).mono (by
          rintro e w4 ⟨s4, t4, d4, k4, x4, rfl, hc4, hb4⟩
          obtain ⟨rfl, rfl, rfl, rfl, rfl⟩ : s4 = 1 ∧ t4 = t1 ∧ d4 = d1 ∧ k4 = d1 ∧ x4 = x1 := by
            rcases hc4 with ⟨hv4, h4⟩ | ⟨hv4, h4⟩ <;> first | omega | exact absurd HV.out hv4 | exact absurd hv4 HV.out
          exact ⟨rfl, hb4⟩)
        clear hb2 hv
        go_wp2_with fail
        have J3 := hide (blk_keep J2.out (.cells #[.int .i64 1, .int .i64 t1, .int .i64 d1, .int .i64 d1, .int .i64 x1] 25))
        have K3 := hide (blk_alloc w2 (.cells #[.int .i64 1, .int .i64 t1, .int .i64 d1, .int .i64 d1, .int .i64 x1] 25))
        have H3 : Hid (Below w.heap.size w (w2.alloc (.cells #[.int .i64 1, .int .i64 t1, .int .i64 d1, .int .i64 d1, .int .i64 x1] 25))) := H2.out.alloc H2.out.size _
        obtain ⟨j0, j1, j2, j3, j4⟩ := bw_cells5 J3.out
        obtain ⟨q0, q1, q2, q3, q4⟩ := bw_cells5 K3.out
        refine wp_region_bw (by kernel_rfl) (by kernel_rfl) ?_
        repeat (go_big_quiet_step (first | (go_at_call 18; exact bw_of (CS.out _)) | (go_at_call 15; exact bw_of (iValidJob_any _ _ _ _ _ _))))
        refine wpQuiet_nil ?_
        rintro _ ⟨z3, rfl⟩
        have H4 : Hid (Below w.heap.size w z3.v) := H3.out.trans (z3.h.mono (by have := H3.out.size; omega))
        have J4 := hide (bw_blk J3.out z3)
        have K4 := hide (bw_blk K3.out z3)
        clear j0 j1 j2 j3 j4 q0 q1 q2 q3 q4 J3 K3 H3
        obtain ⟨w3, hw3⟩ : ∃ w3, w3 = z3.v := ⟨_, rfl⟩
        rw [← hw3] at H4 J4 K4 ⊢
        clear hw3 z3
        obtain ⟨j0, j1, j2, j3, j4⟩ := bw_cells5 J4.out
        obtain ⟨q0, q1, q2, q3, q4⟩ := bw_cells5 K4.out
        go_wp2_with fail
        have hkd : d1 ≤ d := (vj_facts HV.out).1.2.2.2.2.2.1
        have CI : Hid (∀ W : World, Calls Try.prog 19 #[(.agg #[.int .i64 1, .int .i64 t1, .int .i64 d1, .int .i64 d1, .int .i64 x1])] W fun e w' => e = .returned (.agg #[.int .i64 1, .int .i64 t1, .int .i64 d1, .int .i64 d1, .int .i64 x1]) ∧ Below W.heap.size W w') := fun W => (iCrashJob_any 1 t1 d1 d1 x1 W).mono (by
          rintro e w4 ⟨s4, t4, d4, k4, x4, rfl, hc4, hb4⟩
          have hv : VJ 1 t1 d1 d1 x1 := by have := HV.out; unfold VJ at *; omega
          obtain ⟨rfl, rfl, rfl, rfl, rfl⟩ : s4 = 1 ∧ t4 = t1 ∧ d4 = d1 ∧ k4 = d1 ∧ x4 = x1 := by
            rcases hc4 with ⟨hv4, h4⟩ | ⟨hv4, h4⟩ <;> first | omega | exact absurd hv hv4
          exact ⟨rfl, hb4⟩)
        refine wp_region_bw (by kernel_rfl) (by kernel_rfl) ?_
        repeat (go_big_quiet_step (first | (go_at_call 18; exact bw_of (CS.out _)) | (go_at_call 19; exact bw_of (CI.out _))))
        refine wpQuiet_nil ?_
        rintro _ ⟨z5, rfl⟩
        have H5 : Hid (Below w.heap.size w z5.v) := H4.out.trans (z5.h.mono H4.out.size)
        go_wp2_with fail
        go_ret
        exact ⟨rfl, H5.out⟩

      · have hvb : vjB s1 t1 d1 k1 x1 = true := vj_t hv
        have HV := hide hv
        have J2 := hide (blk_own hb2 (blk_alloc w1 _))
        have H2 : Hid (Below w.heap.size w w2) := (H1.out.alloc H1.out.size _).trans (hb2.mono (by simp; omega))
        have hs2 : w1.heap.size < w2.heap.size := lt_block J2.out
        have CS : Hid (∀ W : World, Calls Try.prog 18 #[(.agg #[.int .i64 s1, .int .i64 t1, .int .i64 d1, .int .i64 k1, .int .i64 x1])] W fun e w' => e = .returned (.agg #[.int .i64 s1, .int .i64 t1, .int .i64 d1, .int .i64 k1, .int .i64 x1]) ∧ Below W.heap.size W w') := fun W => (sCrashJob_any s1 t1 d1 k1 x1 W).mono (by
          rintro e w4 ⟨s4, t4, d4, k4, x4, rfl, hc4, hb4⟩
          obtain ⟨rfl, rfl, rfl, rfl, rfl⟩ : s4 = s1 ∧ t4 = t1 ∧ d4 = d1 ∧ k4 = k1 ∧ x4 = x1 := by
            rcases hc4 with ⟨hv4, h4⟩ | ⟨hv4, h4⟩ <;> first | omega | exact absurd HV.out hv4 | exact absurd hv4 HV.out
          exact ⟨rfl, hb4⟩)
        clear hb2 hv
        go_wp2_with fail
        have J3 := hide (blk_keep J2.out (.cells #[.int .i64 s1, .int .i64 t1, .int .i64 d1, .int .i64 k1, .int .i64 x1] 25))
        have K3 := hide (blk_alloc w2 (.cells #[.int .i64 s1, .int .i64 t1, .int .i64 d1, .int .i64 k1, .int .i64 x1] 25))
        have H3 : Hid (Below w.heap.size w (w2.alloc (.cells #[.int .i64 s1, .int .i64 t1, .int .i64 d1, .int .i64 k1, .int .i64 x1] 25))) := H2.out.alloc H2.out.size _
        obtain ⟨j0, j1, j2, j3, j4⟩ := bw_cells5 J3.out
        obtain ⟨q0, q1, q2, q3, q4⟩ := bw_cells5 K3.out
        refine wp_region_bw (by kernel_rfl) (by kernel_rfl) ?_
        repeat (go_big_quiet_step (first | (go_at_call 18; exact bw_of (CS.out _)) | (go_at_call 15; exact bw_of (iValidJob_any _ _ _ _ _ _))))
        refine wpQuiet_nil ?_
        rintro _ ⟨z3, rfl⟩
        have H4 : Hid (Below w.heap.size w z3.v) := H3.out.trans (z3.h.mono (by have := H3.out.size; omega))
        have J4 := hide (bw_blk J3.out z3)
        have K4 := hide (bw_blk K3.out z3)
        clear j0 j1 j2 j3 j4 q0 q1 q2 q3 q4 J3 K3 H3
        obtain ⟨w3, hw3⟩ : ∃ w3, w3 = z3.v := ⟨_, rfl⟩
        rw [← hw3] at H4 J4 K4 ⊢
        clear hw3 z3
        obtain ⟨j0, j1, j2, j3, j4⟩ := bw_cells5 J4.out
        obtain ⟨q0, q1, q2, q3, q4⟩ := bw_cells5 K4.out
        go_wp2_with fail
        have hs1b : (s1 == 1) = false := by simpa using hs
        have CI : Hid (∀ W : World, Calls Try.prog 19 #[(.agg #[.int .i64 s1, .int .i64 t1, .int .i64 d1, .int .i64 k1, .int .i64 x1])] W fun e w' => e = .returned (.agg #[.int .i64 s1, .int .i64 t1, .int .i64 d1, .int .i64 k1, .int .i64 x1]) ∧ Below W.heap.size W w') := fun W => (iCrashJob_any s1 t1 d1 k1 x1 W).mono (by
          rintro e w4 ⟨s4, t4, d4, k4, x4, rfl, hc4, hb4⟩
          have hv : VJ s1 t1 d1 k1 x1 := by have := HV.out; unfold VJ at *; omega
          obtain ⟨rfl, rfl, rfl, rfl, rfl⟩ : s4 = s1 ∧ t4 = t1 ∧ d4 = d1 ∧ k4 = k1 ∧ x4 = x1 := by
            rcases hc4 with ⟨hv4, h4⟩ | ⟨hv4, h4⟩ <;> first | omega | exact absurd hv hv4
          exact ⟨rfl, hb4⟩)
        refine wp_region_bw (by kernel_rfl) (by kernel_rfl) ?_
        repeat (go_big_quiet_step (first | (go_at_call 18; exact bw_of (CS.out _)) | (go_at_call 19; exact bw_of (CI.out _))))
        refine wpQuiet_nil ?_
        rintro _ ⟨z5, rfl⟩
        have H5 : Hid (Below w.heap.size w z5.v) := H4.out.trans (z5.h.mono H4.out.size)
        go_wp2_with fail
        go_ret
        exact ⟨rfl, H5.out⟩

    · have hvb : vjB s t d k x = false := vj_f hv
      have HV := hide hv
      have J2 := hide (blk_own hb2 (blk_alloc w1 _))
      have H2 : Hid (Below w.heap.size w w2) := (H1.out.alloc H1.out.size _).trans (hb2.mono (by simp; omega))
      have hs2 : w1.heap.size < w2.heap.size := lt_block J2.out
      have CS : Hid (∀ W : World, Calls Try.prog 18 #[(.agg #[.int .i64 s, .int .i64 t, .int .i64 d, .int .i64 k, .int .i64 x])] W fun e w' => e = .returned (.agg #[.int .i64 0, .int .i64 0, .int .i64 0, .int .i64 0, .int .i64 0]) ∧ Below W.heap.size W w') := fun W => (sCrashJob_any s t d k x W).mono (by
        rintro e w4 ⟨s4, t4, d4, k4, x4, rfl, hc4, hb4⟩
        obtain ⟨rfl, rfl, rfl, rfl, rfl⟩ : s4 = 0 ∧ t4 = 0 ∧ d4 = 0 ∧ k4 = 0 ∧ x4 = 0 := by
          rcases hc4 with ⟨hv4, h4⟩ | ⟨hv4, h4⟩ <;> first | omega | exact absurd HV.out hv4 | exact absurd hv4 HV.out
        exact ⟨rfl, hb4⟩)
      clear hb2 hv
      go_wp2_with fail
      have J3 := hide (blk_keep J2.out (.cells #[.int .i64 0, .int .i64 0, .int .i64 0, .int .i64 0, .int .i64 0] 25))
      have K3 := hide (blk_alloc w2 (.cells #[.int .i64 0, .int .i64 0, .int .i64 0, .int .i64 0, .int .i64 0] 25))
      have H3 : Hid (Below w.heap.size w (w2.alloc (.cells #[.int .i64 0, .int .i64 0, .int .i64 0, .int .i64 0, .int .i64 0] 25))) := H2.out.alloc H2.out.size _
      obtain ⟨j0, j1, j2, j3, j4⟩ := bw_cells5 J3.out
      obtain ⟨q0, q1, q2, q3, q4⟩ := bw_cells5 K3.out
      refine wp_region_bw (by kernel_rfl) (by kernel_rfl) ?_
      repeat (go_big_quiet_step (first | (go_at_call 18; exact bw_of (CS.out _)) | (go_at_call 15; exact bw_of (iValidJob_any _ _ _ _ _ _))))
      refine wpQuiet_nil ?_
      rintro _ ⟨z3, rfl⟩
      have H4 : Hid (Below w.heap.size w z3.v) := H3.out.trans (z3.h.mono (by have := H3.out.size; omega))
      have J4 := hide (bw_blk J3.out z3)
      have K4 := hide (bw_blk K3.out z3)
      clear j0 j1 j2 j3 j4 q0 q1 q2 q3 q4 J3 K3 H3
      obtain ⟨w3, hw3⟩ : ∃ w3, w3 = z3.v := ⟨_, rfl⟩
      rw [← hw3] at H4 J4 K4 ⊢
      clear hw3 z3
      obtain ⟨j0, j1, j2, j3, j4⟩ := bw_cells5 J4.out
      obtain ⟨q0, q1, q2, q3, q4⟩ := bw_cells5 K4.out
      go_wp2_with fail
      refine wp_region_bw (by kernel_rfl) (by kernel_rfl) ?_
      repeat (go_big_quiet_step (first | (go_at_call 18; exact bw_of (CS.out _)) | fail))
      refine wpQuiet_nil ?_
      rintro _ ⟨z5, rfl⟩
      have H5 : Hid (Below w.heap.size w z5.v) := H4.out.trans (z5.h.mono H4.out.size)
      go_wp2_with fail
      go_ret
      exact ⟨rfl, H5.out⟩
end Go.Proofs.Ytcfacldbmnlmoaa
