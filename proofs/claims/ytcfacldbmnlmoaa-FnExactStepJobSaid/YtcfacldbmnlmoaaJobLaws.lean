/-
  The walks of the laws FnExact.. on jobs.
-/
import Derived.Test.YtcfacldbmnlmoaaJobs4
import Derived.Test.YtcfacldbmnlmoaaJobArg
set_option linter.all false
namespace Go.Proofs.Ytcfacldbmnlmoaa
open Go.RowKit
set_option maxHeartbeats 1000000 in
set_option maxRecDepth 100000 in
theorem exactValidJob_walk (s t d k x : Int) (w : World) :
    Calls Try.prog 3 #[.agg #[.int .i64 s, .int .i64 t, .int .i64 d, .int .i64 k, .int .i64 x]] w fun e w' => e = .returned (.bool true) ∧ Below w.heap.size w w' := by
  go_enter Try.func3, Try.ntmps3
  go_wp2_with fail
  refine (toJob_any _ _ _ _ _ _).mono ?_
  rintro e w1 ⟨rfl, hb1⟩
  have B1 := hide (blk_own hb1 (blk_alloc w _))
  have H1 : Hid (Below w.heap.size w w1) := ((Below.refl _ _).alloc (Nat.le_refl _) _).trans (hb1.mono (by simp))
  clear hb1
  go_wp2_with fail
  refine (sValidJob_any _ _ _ _ _ _).mono ?_
  rintro e w2 ⟨rfl, hb2⟩
  have B2 := hide (blk_own hb2 B1.out)
  obtain ⟨⟨c00, c01, c02, c03, c04⟩, _⟩ := cells5 B2.out
  have hs2 : w.heap.size < w2.heap.size := lt_block B2.out
  have H2 : Hid (Below w.heap.size w w2) := H1.out.trans (hb2.mono H1.out.size)
  clear hb2
  go_wp2_with fail
  refine (toJob_any _ _ _ _ _ _).mono ?_
  rintro e w3 ⟨rfl, hb3⟩
  have H3 : Hid (Below w.heap.size w w3) := H2.out.trans (hb3.mono H2.out.size)
  clear hb3
  go_wp2_with fail
  refine (iValidJob_any _ _ _ _ _ _).mono ?_
  rintro e w4 ⟨rfl, hb4⟩
  have H4 : Hid (Below w.heap.size w w4) := H3.out.trans (hb4.mono H3.out.size)
  clear hb4
  go_wp2_with fail
  go_ret
  exact ⟨rfl, H4.out⟩
set_option maxHeartbeats 1000000 in
set_option maxRecDepth 100000 in
theorem exactWorkLeft_walk (s t d k x : Int) (w : World) :
    Calls Try.prog 4 #[.agg #[.int .i64 s, .int .i64 t, .int .i64 d, .int .i64 k, .int .i64 x]] w fun e w' => e = .returned (.bool true) ∧ Below w.heap.size w w' := by
  go_enter Try.func4, Try.ntmps4
  go_wp2_with fail
  refine (toJob_any _ _ _ _ _ _).mono ?_
  rintro e w1 ⟨rfl, hb1⟩
  have B1 := hide (blk_own hb1 (blk_alloc w _))
  have H1 : Hid (Below w.heap.size w w1) := ((Below.refl _ _).alloc (Nat.le_refl _) _).trans (hb1.mono (by simp))
  clear hb1
  go_wp2_with fail
  refine (sWorkLeft_any _ _ _ _ _ _).mono ?_
  rintro e w2 ⟨rfl, hb2⟩
  have B2 := hide (blk_own hb2 B1.out)
  obtain ⟨⟨c00, c01, c02, c03, c04⟩, _⟩ := cells5 B2.out
  have hs2 : w.heap.size < w2.heap.size := lt_block B2.out
  have H2 : Hid (Below w.heap.size w w2) := H1.out.trans (hb2.mono H1.out.size)
  clear hb2
  go_wp2_with fail
  refine (toJob_any _ _ _ _ _ _).mono ?_
  rintro e w3 ⟨rfl, hb3⟩
  have H3 : Hid (Below w.heap.size w w3) := H2.out.trans (hb3.mono H2.out.size)
  clear hb3
  go_wp2_with fail
  refine (iWorkLeft_any _ _ _ _ _ _).mono ?_
  rintro e w4 ⟨rfl, hb4⟩
  have H4 : Hid (Below w.heap.size w w4) := H3.out.trans (hb4.mono H3.out.size)
  clear hb4
  generalize workL s t d k x = r
  go_wp2_with fail
  go_ret
  exact ⟨rfl, H4.out⟩
set_option maxHeartbeats 1000000 in
set_option maxRecDepth 100000 in
theorem exactCrashJob_walk (s t d k x : Int) (w : World) :
    Calls Try.prog 5 #[.agg #[.int .i64 s, .int .i64 t, .int .i64 d, .int .i64 k, .int .i64 x]] w fun e w' => e = .returned (.bool true) ∧ Below w.heap.size w w' := by
  go_enter Try.func5, Try.ntmps5
  go_wp2_with fail
  refine (toJob_any _ _ _ _ _ _).mono ?_
  rintro e w1 ⟨rfl, hb1⟩
  have B1 := hide (blk_own hb1 (blk_alloc w _))
  have H1 : Hid (Below w.heap.size w w1) := ((Below.refl _ _).alloc (Nat.le_refl _) _).trans (hb1.mono (by simp))
  clear hb1
  go_wp2_with fail
  refine (sCrashJob_any _ _ _ _ _ _).mono ?_
  rintro e w2 ⟨s1, t1, d1, k1, x1, rfl, hr1, hb2⟩
  have B2 := hide (blk_own hb2 B1.out)
  obtain ⟨⟨c00, c01, c02, c03, c04⟩, _⟩ := cells5 B2.out
  have hs2 : w.heap.size < w2.heap.size := lt_block B2.out
  have H2 : Hid (Below w.heap.size w w2) := H1.out.trans (hb2.mono H1.out.size)
  have R1 := hide hr1
  clear hb2 hr1
  go_wp2_with fail
  refine (toJob_any _ _ _ _ _ _).mono ?_
  rintro e w3 ⟨rfl, hb3⟩
  have B3 := hide (blk_own hb3 (blk_alloc w2 _))
  have H3 : Hid (Below w.heap.size w w3) := (H2.out.alloc (by have := H2.out.size; omega) _).trans (hb3.mono (by have := H2.out.size; simp; omega))
  clear hb3
  go_wp2_with fail
  refine (iCrashJob_any _ _ _ _ _ _).mono ?_
  rintro e w4 ⟨s2, t2, d2, k2, x2, rfl, hr2, hb4⟩
  obtain ⟨rfl, rfl, rfl, rfl, rfl⟩ : s2 = s1 ∧ t2 = t1 ∧ d2 = d1 ∧ k2 = k1 ∧ x2 = x1 := by
    have hr1 := R1.out
    rcases hr1 with ⟨hv, h1⟩ | ⟨hv, h1⟩ <;> rcases hr2 with ⟨hv2, h2⟩ | ⟨hv2, h2⟩
    · omega
    · exact absurd hv hv2
    · exact absurd hv2 hv
    · omega
  clear hr2 R1
  have B4 := hide (blk_own hb4 B3.out)
  obtain ⟨⟨e00, e01, e02, e03, e04⟩, _⟩ := cells5 B4.out
  have H4 : Hid (Below w.heap.size w w4) := H3.out.trans (hb4.mono H3.out.size)
  have hs4 : w2.heap.size < w4.heap.size := lt_block B4.out
  clear hb4
  go_wp2_with fail
  refine (eqJob_same _ _ _ _ _ _).mono ?_
  rintro e w5 ⟨rfl, hb5⟩
  have H5 : Hid (Below w.heap.size w w5) := (H4.out.alloc (by have := H4.out.size; omega) _).trans (hb5.mono (by have := H4.out.size; simp; omega))
  clear hb5
  go_wp2_with fail
  go_ret
  exact ⟨rfl, H5.out⟩
set_option maxHeartbeats 1000000 in
set_option maxRecDepth 100000 in
theorem exactStepJob_walk (s t d k x ev : Int) (w : World) :
    Calls Try.prog 6 #[.agg #[.int .i64 s, .int .i64 t, .int .i64 d, .int .i64 k, .int .i64 x], .int .i64 ev] w fun e w' => e = .returned (.bool true) ∧ Below w.heap.size w w' := by
  go_enter Try.func6, Try.ntmps6
  go_wp2_with fail
  refine (toJob_any _ _ _ _ _ _).mono ?_
  rintro e w1 ⟨rfl, hb1⟩
  have B1 := hide (blk_own hb1 (blk_alloc w _))
  have H1 : Hid (Below w.heap.size w w1) := ((Below.refl _ _).alloc (Nat.le_refl _) _).trans (hb1.mono (by simp))
  clear hb1
  go_wp2_with fail
  refine (sStepJob_any _ _ _ _ _ _ _).mono ?_
  rintro e w2 ⟨s1, t1, d1, k1, x1, b1, rfl, hr1, hb2⟩
  have B2 := hide (blk_own hb2 B1.out)
  obtain ⟨⟨c00, c01, c02, c03, c04⟩, _⟩ := cells5 B2.out
  have hs2 : w.heap.size < w2.heap.size := lt_block B2.out
  have H2 : Hid (Below w.heap.size w w2) := H1.out.trans (hb2.mono H1.out.size)
  have R1 := hide hr1
  clear hb2 hr1
  go_wp2_with fail
  refine (toJob_any _ _ _ _ _ _).mono ?_
  rintro e w3 ⟨rfl, hb3⟩
  have B3 := hide (blk_own hb3 (blk_alloc w2 _))
  have H3 : Hid (Below w.heap.size w w3) := (H2.out.alloc (by have := H2.out.size; omega) _).trans (hb3.mono (by have := H2.out.size; simp; omega))
  clear hb3
  go_wp2_with fail
  refine (iStepJob_any _ _ _ _ _ _ _).mono ?_
  rintro e w4 ⟨s2, t2, d2, k2, x2, b2, rfl, hr2, hb4⟩
  obtain ⟨rfl, rfl, rfl, rfl, rfl, rfl⟩ := hr2.det R1.out
  clear hr2 R1
  have B4 := hide (blk_own hb4 B3.out)
  obtain ⟨⟨e00, e01, e02, e03, e04⟩, _⟩ := cells5 B4.out
  have H4 : Hid (Below w.heap.size w w4) := H3.out.trans (hb4.mono H3.out.size)
  have hs4 : w2.heap.size < w4.heap.size := lt_block B4.out
  clear hb4
  go_wp2_with fail
  refine (eqJob_same _ _ _ _ _ _).mono ?_
  rintro e w5 ⟨rfl, hb5⟩
  have H5 : Hid (Below w.heap.size w w5) := (H4.out.alloc (by have := H4.out.size; omega) _).trans (hb5.mono (by have := H4.out.size; simp; omega))
  clear hb5
  go_wp2_with fail
  go_ret
  exact ⟨rfl, H5.out⟩
end Go.Proofs.Ytcfacldbmnlmoaa
