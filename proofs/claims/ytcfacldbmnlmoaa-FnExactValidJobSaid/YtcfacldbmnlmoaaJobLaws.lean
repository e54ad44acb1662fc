/-
  The walks of the laws FnExact.. on jobs.
-/
import Derived.Test.YtcfacldbmnlmoaaJobs4
import Derived.Test.YtcfacldbmnlmoaaJobArg
namespace Go.Proofs.Ytcfacldbmnlmoaa
open Go.RowKit
set_option maxHeartbeats 1000000 in
set_option maxRecDepth 100000 in
theorem exactValidJob_walk (s t d k x : Int) (w : World) :
    Calls Try.prog 3 #[.agg #[.int .i64 s, .int .i64 t, .int .i64 d, .int .i64 k, .int .i64 x]] w fun e w' => e = .returned (.bool true) ∧ Below w.heap.size w w' := by
  go_enter Try.func3, Try.ntmps3
  go_wp2_with fail
  refine (toJob_any _ _ _ _ _ _).mono ?_
  rintro e w1 ⟨rfl, hb1⟩
  have B1 := hide (blk_own hb1 (blk_alloc w _))
  have H1 : Hid (Below w.heap.size w w1) := ((Below.refl _ _).alloc (Nat.le_refl _) _).trans (hb1.mono (by simp))
  clear hb1
  go_wp2_with fail
  refine (sValidJob_any _ _ _ _ _ _).mono ?_
  rintro e w2 ⟨rfl, hb2⟩
  have B2 := hide (blk_own hb2 B1.out)
  obtain ⟨⟨c00, c01, c02, c03, c04⟩, _⟩ := cells5 B2.out
  have H2 : Hid (Below w.heap.size w w2) := H1.out.trans (hb2.mono H1.out.size)
  clear hb2
  go_wp2_with fail
  refine (toJob_any _ _ _ _ _ _).mono ?_
  rintro e w3 ⟨rfl, hb3⟩
  have H3 : Hid (Below w.heap.size w w3) := H2.out.trans (hb3.mono H2.out.size)
  clear hb3
  go_wp2_with fail
  refine (iValidJob_any _ _ _ _ _ _).mono ?_
  rintro e w4 ⟨rfl, hb4⟩
  have H4 : Hid (Below w.heap.size w w4) := H3.out.trans (hb4.mono H3.out.size)
  clear hb4
  go_wp2_with fail
  go_ret
  exact ⟨rfl, H4.out⟩
end Go.Proofs.Ytcfacldbmnlmoaa
