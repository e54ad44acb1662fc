/-
  The walks of the laws FnStepJob, FnWorkLeftStep, FnStepJobStop.
-/
import Derived.Test.YtcfacldbmnlmoaaJobFn
set_option linter.all false
namespace Go.Proofs.Ytcfacldbmnlmoaa
open Go.RowKit
theorem StepTo.facts {s t d k x ev s' t' d' k' x' : Int} (h : StepTo s t d k x ev s' t' d' k' x') (hv : VJ s t d k x) : t' = t ∧ s ≤ s' ∧ s < 3 ∧ k ≤ k' ∧ d ≤ d' := by
  have := vj_facts hv
  cases h <;> omega
theorem workL_of {s t d k x : Int} (hv : VJ s t d k x) : workL s t d k x = workI s t d x := by simp [workL, vj_t hv]
theorem StepTo.work {s t d k x ev s' t' d' k' x' : Int} (h : StepTo s t d k x ev s' t' d' k' x') (hv : VJ s t d k x) : (s' = 4 ∧ workL s' t' d' k' x' = -1) ∨ (s' ≠ 4 ∧ workL s t d k x - 1 ≤ workL s' t' d' k' x') := by
  have hv' := h.valid hv
  have hf := vj_facts hv
  rw [workL_of hv, workL_of hv']
  unfold workI
  cases h <;> subst_vars <;> (repeat' split) <;> omega
theorem workL_bd (s t d k x : Int) : -1 ≤ workL s t d k x ∧ workL s t d k x ≤ 100 := by
  unfold workL workI
  split
  · rename_i h
    have := vj_facts (vj_of h)
    (repeat' split) <;> omega
  · omega
set_option maxHeartbeats 4000000 in
set_option maxRecDepth 100000 in
theorem fnStepJob_walk (v : Value) (w : World) (h : BytesAt w v) :
    Calls Try.prog 8 #[v] w fun e w' => e = .returned (.bool true) ∧ Below w.heap.size w w' := by
  have hB := hide h
  obtain ⟨a, len, cap, rfl, hlc, hcap, hr⟩ := h
  clear hr
  by_cases hlen : 1048576 < len
  · go_enter Try.func8, Try.ntmps8
    go_wp2_with fail
    go_ret
    exact ⟨rfl, Below.refl _ _⟩
  · go_enter Try.func8, Try.ntmps8
    go_wp2_with fail
    refine (drawStepJob_any _ _ hB.out).mono ?_
    rintro e w1 ⟨s, t, d, k, x, ev, rfl, hb1⟩
    have H1 := hide hb1
    have hs1 := hb1.size
    clear hb1
    go_wp2_with fail
    refine (iStepJob_any _ _ _ _ _ _ _).mono ?_
    rintro e w2 ⟨s1, t1, d1, k1, x1, b1, rfl, hr1, hb2⟩
    have J2 := hide (blk_own hb2 (blk_alloc w1 _))
    have H2 : Hid (Below w.heap.size w w2) := (H1.out.alloc H1.out.size _).trans (hb2.mono (by simp; omega))
    have R1 := hide hr1
    have hs2 : w1.heap.size < w2.heap.size := lt_block J2.out
    obtain ⟨⟨j0, j1, j2, j3, j4⟩, -⟩ := cells5 J2.out
    clear hb2 hr1
    go_wp2_with fail
    refine (sStepJob_any _ _ _ _ _ _ _).mono ?_
    rintro e w3 ⟨s2, t2, d2, k2, x2, b2, rfl, hr2, hb3⟩
    obtain ⟨rfl, rfl, rfl, rfl, rfl, rfl⟩ := hr2.det R1.out
    clear hr2
    have J3 := hide (blk_own hb3 (blk_keep J2.out _))
    have K3 := hide (blk_own hb3 (blk_alloc w2 _))
    have H3 : Hid (Below w.heap.size w w3) := (H2.out.alloc H2.out.size _).trans (hb3.mono (by have := H2.out.size; simp; omega))
    have hs3 : w2.heap.size < w3.heap.size := lt_block K3.out
    have hs3' : w1.heap.size < w3.heap.size := by omega
    clear hb3 j0 j1 j2 j3 j4
    have H4 : Hid (Below w.heap.size w (w3.alloc (.cells #[.int .i64 s1, .int .i64 t1, .int .i64 d1, .int .i64 k1, .int .i64 x1] 25))) := H3.out.alloc H3.out.size _
    obtain ⟨⟨j0, j1, j2, j3, j4⟩, -⟩ := cells5 J3.out
    obtain ⟨⟨q0, q1, q2, q3, q4⟩, -⟩ := cells5 K3.out
    have hr1 := R1.out
    cases hr1 with
    | yes hb hv ht =>
      subst hb
      obtain ⟨rfl, f1, f2, f3, f4⟩ := ht.facts hv
      clear hv ht
      go_wp2_with fail
      go_ret
      exact ⟨rfl, H4.out⟩
    | no hb hn e0 e1 e2 e3 e4 =>
      subst hb e0 e1 e2 e3 e4
      clear hn
      go_wp2_with fail
      go_ret
      exact ⟨rfl, H4.out⟩
set_option maxHeartbeats 4000000 in
set_option maxRecDepth 100000 in
theorem fnWorkLeftStep_walk (v : Value) (w : World) (h : BytesAt w v) :
    Calls Try.prog 11 #[v] w fun e w' => e = .returned (.bool true) ∧ Below w.heap.size w w' := by
  have hB := hide h
  obtain ⟨a, len, cap, rfl, hlc, hcap, hr⟩ := h
  clear hr
  by_cases hlen : 1048576 < len
  · go_enter Try.func11, Try.ntmps11
    go_wp2_with fail
    go_ret
    exact ⟨rfl, Below.refl _ _⟩
  · go_enter Try.func11, Try.ntmps11
    go_wp2_with fail
    refine (drawStepJob_any _ _ hB.out).mono ?_
    rintro e w1 ⟨s, t, d, k, x, ev, rfl, hb1⟩
    have H1 := hide hb1
    have hs1 := hb1.size
    clear hb1
    go_wp2_with fail
    refine (iStepJob_any _ _ _ _ _ _ _).mono ?_
    rintro e w2 ⟨s1, t1, d1, k1, x1, b1, rfl, hr1, hb2⟩
    have J2 := hide (blk_own hb2 (blk_alloc w1 _))
    have H2 : Hid (Below w.heap.size w w2) := (H1.out.alloc H1.out.size _).trans (hb2.mono (by simp; omega))
    have R1 := hide hr1
    have hs2 : w1.heap.size < w2.heap.size := lt_block J2.out
    obtain ⟨⟨j0, j1, j2, j3, j4⟩, -⟩ := cells5 J2.out
    clear hb2 hr1
    go_wp2_with fail
    refine (sStepJob_any _ _ _ _ _ _ _).mono ?_
    rintro e w3 ⟨s2, t2, d2, k2, x2, b2, rfl, hr2, hb3⟩
    obtain ⟨rfl, rfl, rfl, rfl, rfl, rfl⟩ := hr2.det R1.out
    clear hr2
    have J3 := hide (blk_own hb3 (blk_keep J2.out _))
    have K3 := hide (blk_own hb3 (blk_alloc w2 _))
    have H3 : Hid (Below w.heap.size w w3) := (H2.out.alloc H2.out.size _).trans (hb3.mono (by have := H2.out.size; simp; omega))
    have hs3 : w2.heap.size < w3.heap.size := lt_block K3.out
    have hs3' : w1.heap.size < w3.heap.size := by omega
    clear hb3 j0 j1 j2 j3 j4
    have H4 : Hid (Below w.heap.size w (w3.alloc (.cells #[.int .i64 s1, .int .i64 t1, .int .i64 d1, .int .i64 k1, .int .i64 x1] 25))) := H3.out.alloc H3.out.size _
    obtain ⟨⟨j0, j1, j2, j3, j4⟩, -⟩ := cells5 J3.out
    obtain ⟨⟨q0, q1, q2, q3, q4⟩, -⟩ := cells5 K3.out
    have hr1 := R1.out
    cases hr1 with
    | yes hb hv ht =>
      subst hb
      have hw := ht.work hv
      have ha := workL_bd s1 t1 d1 k1 x1
      have hj := workL_bd s t d k x
      have CK := hide (iWorkLeft_any s1 t1 d1 k1 x1)
      have CI := hide (iWorkLeft_any s t d k x)
      clear hv ht
      generalize workL s1 t1 d1 k1 x1 = a2 at hw ha CK
      generalize workL s t d k x = a1 at hw hj CI
      obtain ⟨ha0, ha1⟩ := ha
      obtain ⟨hj0, hj1⟩ := hj
      have J4 := hide (blk_keep J3.out (.cells #[.int .i64 s1, .int .i64 t1, .int .i64 d1, .int .i64 k1, .int .i64 x1] 25))
      have K4 := hide (blk_keep K3.out (.cells #[.int .i64 s1, .int .i64 t1, .int .i64 d1, .int .i64 k1, .int .i64 x1] 25))
      rcases hw with ⟨rfl, rfl⟩ | ⟨hs4, hle⟩
      · go_wp2_with fail
        obtain ⟨m0, m1, m2, m3, m4⟩ := bw_cells5 J4.out
        obtain ⟨n0, n1, n2, n3, n4⟩ := bw_cells5 K4.out
        refine wp_region_bw (by kernel_rfl) (by kernel_rfl) ?_
        repeat (go_big_quiet_step (first | (go_at_call 17; exact bw_of (CK.out _))))
        refine wpQuiet_nil ?_
        rintro _ ⟨z5, rfl⟩
        have H5 : Hid (Below w.heap.size w z5.v) := H4.out.trans (z5.h.mono H4.out.size)
        go_wp2_with fail
        go_ret
        exact ⟨rfl, H5.out⟩
      · have hs4b : (s1 == 4) = false := by simpa using hs4
        have hwr : IntKind.i64.wrap (a1 - 1) = a1 - 1 := IntWalk.i64_in _ (by omega)
        go_wp2_with fail
        obtain ⟨m0, m1, m2, m3, m4⟩ := bw_cells5 J4.out
        obtain ⟨n0, n1, n2, n3, n4⟩ := bw_cells5 K4.out
        refine wp_region_bw (by kernel_rfl) (by kernel_rfl) ?_
        repeat (go_big_quiet_step (first | (go_at_call 17; first | (with_reducible exact bw_of (CK.out _)) | (with_reducible exact bw_of (CI.out _)))))
        refine wpQuiet_nil ?_
        rintro _ ⟨z5, rfl⟩
        have H5 : Hid (Below w.heap.size w z5.v) := H4.out.trans (z5.h.mono H4.out.size)
        go_wp2_with fail
        go_ret
        exact ⟨rfl, H5.out⟩
    | no hb hn e0 e1 e2 e3 e4 =>
      subst hb e0 e1 e2 e3 e4
      clear hn
      go_wp2_with fail
      go_ret
      exact ⟨rfl, H4.out⟩
set_option maxHeartbeats 4000000 in
set_option maxRecDepth 100000 in
theorem fnStepJobStop_walk (v : Value) (w : World) (h : BytesAt w v) :
    Calls Try.prog 10 #[v] w fun e w' => e = .returned (.bool true) ∧ Below w.heap.size w w' := by
  have hB := hide h
  obtain ⟨a, len, cap, rfl, hlc, hcap, hr⟩ := h
  clear hr
  by_cases hlen : 1048576 < len
  · go_enter Try.func10, Try.ntmps10
    go_wp2_with fail
    go_ret
    exact ⟨rfl, Below.refl _ _⟩
  · go_enter Try.func10, Try.ntmps10
    go_wp2_with fail
    refine (drawStepJob_any _ _ hB.out).mono ?_
    rintro e w1 ⟨s, t, d, k, x, ev, rfl, hb1⟩
    have H1 := hide hb1
    have hs1 := hb1.size
    clear hb1
    go_wp2_with fail
    refine (iStepJob_any _ _ _ _ _ _ _).mono ?_
    rintro e w2 ⟨s1, t1, d1, k1, x1, b1, rfl, hr1, hb2⟩
    have J2 := hide (blk_own hb2 (blk_alloc w1 _))
    have H2 : Hid (Below w.heap.size w w2) := (H1.out.alloc H1.out.size _).trans (hb2.mono (by simp; omega))
    have R1 := hide hr1
    have hs2 : w1.heap.size < w2.heap.size := lt_block J2.out
    obtain ⟨⟨j0, j1, j2, j3, j4⟩, -⟩ := cells5 J2.out
    clear hb2 hr1
    go_wp2_with fail
    refine (sStepJob_any _ _ _ _ _ _ _).mono ?_
    rintro e w3 ⟨s2, t2, d2, k2, x2, b2, rfl, hr2, hb3⟩
    obtain ⟨rfl, rfl, rfl, rfl, rfl, rfl⟩ := hr2.det R1.out
    clear hr2
    have J3 := hide (blk_own hb3 (blk_keep J2.out _))
    have K3 := hide (blk_own hb3 (blk_alloc w2 _))
    have H3 : Hid (Below w.heap.size w w3) := (H2.out.alloc H2.out.size _).trans (hb3.mono (by have := H2.out.size; simp; omega))
    have hs3 : w2.heap.size < w3.heap.size := lt_block K3.out
    have hs3' : w1.heap.size < w3.heap.size := by omega
    clear hb3 j0 j1 j2 j3 j4
    have H4 : Hid (Below w.heap.size w (w3.alloc (.cells #[.int .i64 s1, .int .i64 t1, .int .i64 d1, .int .i64 k1, .int .i64 x1] 25))) := H3.out.alloc H3.out.size _
    obtain ⟨⟨j0, j1, j2, j3, j4⟩, -⟩ := cells5 J3.out
    obtain ⟨⟨q0, q1, q2, q3, q4⟩, -⟩ := cells5 K3.out
    go_wp2_with fail
    have J4 := hide (blk_keep J3.out (.cells #[.int .i64 s1, .int .i64 t1, .int .i64 d1, .int .i64 k1, .int .i64 x1] 25))
    clear R1 j0 j1 j2 j3 j4 q0 q1 q2 q3 q4 K3 J2
    refine (iStepJob_any s t d k x 6 _).mono ?_
    rintro e w5 ⟨s5, t5, d5, k5, x5, b5, rfl, hr5, hb5⟩
    have H5 : Hid (Below w.heap.size w w5) := H4.out.trans (hb5.mono H4.out.size)
    clear hb5 J3 J4
    cases hr5 with
    | no hb hn e0 e1 e2 e3 e4 =>
      subst hb e0 e1 e2 e3 e4
      clear hn
      go_wp2_with fail
      have H6 : Hid (Below w.heap.size w (w5.alloc (.cells #[.int .i64 0, .int .i64 0, .int .i64 0, .int .i64 0, .int .i64 0] 25))) := H5.out.alloc H5.out.size _
      go_loopg [11] 0 (fun gk s11 wr => s11 = .int .i64 0 ∧ wr = w5.alloc (.cells #[.int .i64 0, .int .i64 0, .int .i64 0, .int .i64 0, .int .i64 0] 25))
      case atStart => exact ⟨rfl, rfl⟩
      case round =>
        obtain ⟨rfl, rfl⟩ := hrel
        go_wp2_with fail
        refine wp_region_bw (by kernel_rfl) (by kernel_rfl) ?_
        repeat (go_big_quiet_step (fail))
        refine wpQuiet_nil ?_
        rintro _ ⟨z7, rfl⟩
        have H7 : Hid (Below w.heap.size w z7.v) := H6.out.trans (z7.h.mono H6.out.size)
        go_wp2_with fail
        go_ret
        exact ⟨rfl, H7.out⟩
    | yes hb hv ht =>
      have hv5 := ht.valid hv
      obtain rfl : s5 = 4 := by cases ht <;> omega
      subst hb
      have HV := hide hv5
      clear hv ht hv5
      have H6 : Hid (Below w.heap.size w (w5.alloc (.cells #[.int .i64 4, .int .i64 t5, .int .i64 d5, .int .i64 k5, .int .i64 x5] 25))) := H5.out.alloc H5.out.size _
      have S6 := hide (blk_alloc w5 (.cells #[.int .i64 4, .int .i64 t5, .int .i64 d5, .int .i64 k5, .int .i64 x5] 25))
      have CC : Hid (∀ W : World, Calls Try.prog 19 #[(.agg #[.int .i64 4, .int .i64 t5, .int .i64 d5, .int .i64 k5, .int .i64 x5])] W fun e w' => e = .returned (.agg #[.int .i64 4, .int .i64 t5, .int .i64 d5, .int .i64 k5, .int .i64 x5]) ∧ Below W.heap.size W w') := fun W => (iCrashJob_any 4 t5 d5 k5 x5 W).mono (by
        rintro e w' ⟨s6, t6, d6, k6, x6, rfl, hc, hb⟩
        obtain ⟨rfl, rfl, rfl, rfl, rfl⟩ : s6 = 4 ∧ t6 = t5 ∧ d6 = d5 ∧ k6 = k5 ∧ x6 = x5 := by
          rcases hc with ⟨_, h4⟩ | ⟨h4, _⟩ <;> first | omega | exact absurd HV.out h4
        exact ⟨rfl, hb⟩)
      go_wp2_with fail
      go_loopg [11] 8 (fun gk s11 wr => ∃ m : Nat, m + gk = 8 ∧ s11 = .int .i64 (m : Int) ∧ wr.heap[w5.heap.size]? = some (.cells #[.int .i64 4, .int .i64 t5, .int .i64 d5, .int .i64 k5, .int .i64 x5] 25) ∧ Below w.heap.size w wr)
      case atStart => exact ⟨0, rfl, rfl, S6.out, H6.out⟩
      case round =>
        obtain ⟨m, hm, rfl, hS, hbw⟩ := hrel
        have HS := hide hS
        have HW := hide hbw
        clear hS hbw S6 H6
        by_cases h8 : m = 8
        · subst h8
          obtain ⟨u0, u1, u2, u3, u4⟩ := bw_cells5 HS.out
          go_wp2_with fail
          refine wp_region_bw (by kernel_rfl) (by kernel_rfl) ?_
          repeat (go_big_quiet_step (first | (go_at_call 19; exact bw_of (CC.out _))))
          refine wpQuiet_nil ?_
          rintro _ ⟨z7, rfl⟩
          have H7 : Hid (Below w.heap.size w z7.v) := HW.out.trans (z7.h.mono HW.out.size)
          go_wp2_with fail
          go_ret
          exact ⟨rfl, H7.out⟩
        · have hm8 : m < 8 := by omega
          obtain ⟨⟨u0, u1, u2, u3, u4⟩, -⟩ := cells5 HS.out
          go_wp2_with fail
          refine (iStepJob_any 4 t5 d5 k5 x5 m _).mono ?_
          rintro e w8 ⟨s8, t8, d8, k8, x8, b8, rfl, hr8, hb8⟩
          obtain rfl : b8 = false := by
            cases hr8 with
            | yes _ _ ht => cases ht <;> omega
            | no hb => exact hb
          have S8 := hide (blk_own hb8 HS.out)
          have H8 : Hid (Below w.heap.size w w8) := HW.out.trans (hb8.mono HW.out.size)
          clear hr8 hb8 u0 u1 u2 u3 u4
          go_wp2_with fail
          go_roundg (gk - 1)
          case measure => omega
          case rel => exact ⟨m + 1, by omega, by go_num, blk_keep S8.out _, H8.out.alloc H8.out.size _⟩
end Go.Proofs.Ytcfacldbmnlmoaa
