/-
  The walks of the laws FnValidJob, FnWorkLeft.
-/
import Derived.Test.YtcfacldbmnlmoaaJobFn2
set_option linter.all false
namespace Go.Proofs.Ytcfacldbmnlmoaa
open Go.RowKit
set_option maxHeartbeats 4000000 in
set_option maxRecDepth 100000 in
theorem fnValidJob_walk (v : Value) (w : World) (h : BytesAt w v) :
    Calls Try.prog 9 #[v] w fun e w' => e = .returned (.bool true) ∧ Below w.heap.size w w' := by
  have hB := hide h
  obtain ⟨a, len, cap, rfl, hlc, hcap, hr⟩ := h
  clear hr
  by_cases hlen : 1048576 < len
  · go_enter Try.func9, Try.ntmps9
    go_wp2_with fail
    go_ret
    exact ⟨rfl, Below.refl _ _⟩
  · go_enter Try.func9, Try.ntmps9
    go_wp2_with fail
    refine (drawValidJob_any _ _ hB.out).mono ?_
    rintro e w1 ⟨s, t, d, k, x, rfl, hb1⟩
    have H1 := hide hb1
    have hs1 := hb1.size
    clear hb1
    by_cases hv : VJ s t d k x
    · have hvb : vjB s t d k x = true := vj_t hv
      have HV := hide hv
      clear hv
      go_wp2_with fail
      refine (iValidJob_any _ _ _ _ _ _).mono ?_
      rintro e w2 ⟨rfl, hb2⟩
      have J2 := hide (blk_own hb2 (blk_alloc w1 _))
      have H2 : Hid (Below w.heap.size w w2) := (H1.out.alloc H1.out.size _).trans (hb2.mono (by simp; omega))
      obtain ⟨⟨j0, j1, j2, j3, j4⟩, -⟩ := cells5 J2.out
      clear hb2
      go_wp2_with fail
      refine (sValidJob_any _ _ _ _ _ _).mono ?_
      rintro e w3 ⟨rfl, hb3⟩
      have J3 := hide (blk_own hb3 J2.out)
      have H3 : Hid (Below w.heap.size w w3) := H2.out.trans (hb3.mono H2.out.size)
      clear hb3 j0 j1 j2 j3 j4
      go_wp2_with fail
      go_loopg [5] 8 (fun gk s5 wr => ∃ m : Nat, m + gk = 8 ∧ s5 = .int .i64 (m : Int) ∧ wr.heap[w1.heap.size]? = some (.cells #[.int .i64 s, .int .i64 t, .int .i64 d, .int .i64 k, .int .i64 x] 25) ∧ Below w.heap.size w wr)
      case atStart => exact ⟨0, rfl, rfl, J3.out, H3.out⟩
      case round =>
        obtain ⟨m, hm, rfl, hS, hbw⟩ := hrel
        have HS := hide hS
        have HW := hide hbw
        have hsr : w1.heap.size < wr.heap.size := lt_block hS
        obtain ⟨⟨j0, j1, j2, j3, j4⟩, -⟩ := cells5 hS
        clear hS hbw J2 J3 H3 H2
        by_cases h8 : m = 8
        · subst h8
          go_wp2_with fail
          refine (iCrashJob_any _ _ _ _ _ _).mono ?_
          rintro e w4 ⟨s4, t4, d4, k4, x4, rfl, hc, hb4⟩
          have H4 : Hid (Below w.heap.size w w4) := HW.out.trans (hb4.mono HW.out.size)
          have hv4 : vjB s4 t4 d4 k4 x4 = true := vj_t (by
            have hv := HV.out
            rcases hc with ⟨_, h4⟩ | ⟨h4, _⟩
            · unfold VJ at *; omega
            · exact absurd hv h4)
          clear hb4 hc
          go_wp2_with fail
          refine (iValidJob_any _ _ _ _ _ _).mono ?_
          rintro e w5 ⟨rfl, hb5⟩
          have H5 : Hid (Below w.heap.size w w5) := H4.out.trans (hb5.mono H4.out.size)
          clear hb5
          go_wp2_with fail
          go_ret
          exact ⟨rfl, H5.out⟩
        · have hm8 : m < 8 := by omega
          go_wp2_with fail
          refine (iStepJob_any s t d k x m _).mono ?_
          rintro e w8 ⟨s8, t8, d8, k8, x8, b8, rfl, hr8, hb8⟩
          have S8 := hide (blk_own hb8 HS.out)
          have H8 : Hid (Below w.heap.size w w8) := HW.out.trans (hb8.mono HW.out.size)
          clear hb8 j0 j1 j2 j3 j4
          cases hr8 with
          | yes hb hv ht =>
            subst hb
            have hv8 := vj_t (ht.valid hv)
            clear hv ht
            have hs8 : w1.heap.size < w8.heap.size := lt_block S8.out
            go_wp2_with fail
            refine (iValidJob_any _ _ _ _ _ _).mono ?_
            rintro e w9 ⟨rfl, hb9⟩
            have S9 := hide (blk_own hb9 (blk_keep S8.out _))
            have H9 : Hid (Below w.heap.size w w9) := (H8.out.alloc H8.out.size _).trans (hb9.mono (by have := H8.out.size; simp; omega))
            clear hb9
            go_wp2_with fail
            go_roundg (gk - 1)
            case measure => omega
            case rel => exact ⟨m + 1, by omega, by go_num, S9.out, H9.out⟩
          | no hb hn e0 e1 e2 e3 e4 =>
            subst hb e0 e1 e2 e3 e4
            clear hn
            go_wp2_with fail
            go_roundg (gk - 1)
            case measure => omega
            case rel => exact ⟨m + 1, by omega, by go_num, blk_keep S8.out _, H8.out.alloc H8.out.size _⟩
    · have hvb : vjB s t d k x = false := vj_f hv
      have HV := hide hv
      clear hv
      go_wp2_with fail
      refine (iValidJob_any _ _ _ _ _ _).mono ?_
      rintro e w2 ⟨rfl, hb2⟩
      have J2 := hide (blk_own hb2 (blk_alloc w1 _))
      have H2 : Hid (Below w.heap.size w w2) := (H1.out.alloc H1.out.size _).trans (hb2.mono (by simp; omega))
      obtain ⟨⟨j0, j1, j2, j3, j4⟩, -⟩ := cells5 J2.out
      clear hb2
      go_wp2_with fail
      refine (sValidJob_any _ _ _ _ _ _).mono ?_
      rintro e w3 ⟨rfl, hb3⟩
      have J3 := hide (blk_own hb3 J2.out)
      have H3 : Hid (Below w.heap.size w w3) := H2.out.trans (hb3.mono H2.out.size)
      clear hb3 j0 j1 j2 j3 j4
      go_wp2_with fail
      go_loopg [5] 8 (fun gk s5 wr => ∃ m : Nat, m + gk = 8 ∧ s5 = .int .i64 (m : Int) ∧ wr.heap[w1.heap.size]? = some (.cells #[.int .i64 s, .int .i64 t, .int .i64 d, .int .i64 k, .int .i64 x] 25) ∧ Below w.heap.size w wr)
      case atStart => exact ⟨0, rfl, rfl, J3.out, H3.out⟩
      case round =>
        obtain ⟨m, hm, rfl, hS, hbw⟩ := hrel
        have HS := hide hS
        have HW := hide hbw
        have hsr : w1.heap.size < wr.heap.size := lt_block hS
        obtain ⟨⟨j0, j1, j2, j3, j4⟩, -⟩ := cells5 hS
        clear hS hbw J2 J3 H3 H2
        by_cases h8 : m = 8
        · subst h8
          go_wp2_with fail
          refine (iCrashJob_any _ _ _ _ _ _).mono ?_
          rintro e w4 ⟨s4, t4, d4, k4, x4, rfl, hc, hb4⟩
          have H4 : Hid (Below w.heap.size w w4) := HW.out.trans (hb4.mono HW.out.size)
          obtain ⟨rfl, rfl, rfl, rfl, rfl⟩ : s4 = 0 ∧ t4 = 0 ∧ d4 = 0 ∧ k4 = 0 ∧ x4 = 0 := by
            rcases hc with ⟨h4, _⟩ | ⟨_, h4⟩
            · exact absurd h4 HV.out
            · exact h4
          have hv4 : vjB 0 0 0 0 0 = true := vj_t (by unfold VJ; omega)
          clear hb4 hc
          go_wp2_with fail
          refine (iValidJob_any _ _ _ _ _ _).mono ?_
          rintro e w5 ⟨rfl, hb5⟩
          have H5 : Hid (Below w.heap.size w w5) := H4.out.trans (hb5.mono H4.out.size)
          clear hb5
          go_wp2_with fail
          go_ret
          exact ⟨rfl, H5.out⟩
        · have hm8 : m < 8 := by omega
          go_wp2_with fail
          refine (iStepJob_any s t d k x m _).mono ?_
          rintro e w8 ⟨s8, t8, d8, k8, x8, b8, rfl, hr8, hb8⟩
          have S8 := hide (blk_own hb8 HS.out)
          have H8 : Hid (Below w.heap.size w w8) := HW.out.trans (hb8.mono HW.out.size)
          clear hb8 j0 j1 j2 j3 j4
          cases hr8 with
          | yes hb hv ht => exact absurd hv HV.out
          | no hb hn e0 e1 e2 e3 e4 =>
            subst hb e0 e1 e2 e3 e4
            clear hn
            go_wp2_with fail
            go_roundg (gk - 1)
            case measure => omega
            case rel => exact ⟨m + 1, by omega, by go_num, blk_keep S8.out _, H8.out.alloc H8.out.size _⟩
/-- the event that makes the work less -/
def bestEv (s t d : Int) : Int := if s = 0 then 1 else if s = 1 then (if d = t then 3 else 2) else 5
theorem best_step {s t d k x ev s' t' d' k' x' : Int} {b : Bool} (hv : VJ s t d k x) (hw : 0 < workI s t d x) (he : ev = bestEv s t d) (h : StepR s t d k x ev s' t' d' k' x' b) :
    b = true ∧ VJ s' t' d' k' x' ∧ workI s' t' d' x' = workI s t d x - 1 := by
  have hf := vj_facts hv
  have hs : s = 0 ∨ s = 1 ∨ s = 2 := by unfold workI at hw; (repeat' split at hw) <;> omega
  cases h with
  | yes hb _ ht =>
    refine ⟨hb, ht.valid hv, ?_⟩
    subst he
    unfold bestEv at ht
    rcases hs with rfl | rfl | rfl
    · cases ht <;> simp at * <;> simp [workI, *] <;> omega
    · by_cases hd : d = t
      · cases ht <;> simp [hd] at * <;> simp [workI, *] <;> omega
      · cases ht <;> simp [hd] at * <;> simp [workI, *] <;> omega
    · cases ht <;> simp at * <;> simp [workI, *] <;> omega
  | no _ hn =>
    refine absurd ⟨hv, ?_⟩ hn
    unfold CanEv bestEv at *
    rcases hs with rfl | rfl | rfl
    · simp at he; omega
    · by_cases hd : d = t
      · simp [hd] at he; omega
      · simp [hd] at he; omega
    · simp at he; omega
set_option maxHeartbeats 4000000 in
set_option maxRecDepth 100000 in
theorem fnWorkLeft_walk (v : Value) (w : World) (h : BytesAt w v) :
    Calls Try.prog 12 #[v] w fun e w' => e = .returned (.bool true) ∧ Below w.heap.size w w' := by
  have hB := hide h
  obtain ⟨a, len, cap, rfl, hlc, hcap, hr⟩ := h
  clear hr
  by_cases hlen : 1048576 < len
  · go_enter Try.func12, Try.ntmps12
    go_wp2_with fail
    go_ret
    exact ⟨rfl, Below.refl _ _⟩
  · go_enter Try.func12, Try.ntmps12
    go_wp2_with fail
    refine (drawWorkLeft_any _ _ hB.out).mono ?_
    rintro e w1 ⟨s, t, d, k, x, rfl, hb1⟩
    have H1 := hide hb1
    have hs1 := hb1.size
    clear hb1
    have hbd := workL_bd s t d k x
    obtain ⟨hbd0, hbd1⟩ := hbd
    by_cases hn : workL s t d k x < 0
    · have CI := hide (iWorkLeft_any s t d k x)
      have CS := hide (sWorkLeft_any s t d k x)
      generalize workL s t d k x = n at *
      go_wp2_with fail
      refine (CI.out _).mono ?_
      rintro e w2 ⟨rfl, hb2⟩
      have J2 := hide (blk_own hb2 (blk_alloc w1 _))
      have H2 : Hid (Below w.heap.size w w2) := (H1.out.alloc H1.out.size _).trans (hb2.mono (by simp; omega))
      obtain ⟨⟨j0, j1, j2, j3, j4⟩, -⟩ := cells5 J2.out
      clear hb2
      go_wp2_with fail
      refine (CS.out _).mono ?_
      rintro e w3 ⟨rfl, hb3⟩
      have J3 := hide (blk_own hb3 J2.out)
      have H3 : Hid (Below w.heap.size w w3) := H2.out.trans (hb3.mono H2.out.size)
      clear hb3 j0 j1 j2 j3 j4
      obtain ⟨⟨j0, j1, j2, j3, j4⟩, -⟩ := cells5 J3.out
      go_wp2_with fail
      refine (CS.out _).mono ?_
      rintro e w4 ⟨rfl, hb4⟩
      have H4 : Hid (Below w.heap.size w w4) := H3.out.trans (hb4.mono H3.out.size)
      clear hb4
      go_wp2_with fail
      go_ret
      exact ⟨rfl, H4.out⟩
    · have hv : VJ s t d k x := by
        by_cases hv : VJ s t d k x
        · exact hv
        · simp [workL, vj_f hv] at hn
      have HV := hide hv
      have HE := hide (workL_of hv)
      have CI := hide (iWorkLeft_any s t d k x)
      have CS := hide (sWorkLeft_any s t d k x)
      clear hv
      generalize workL s t d k x = n at *
      obtain ⟨n, rfl⟩ : ∃ N : Nat, n = (N : Int) := ⟨n.toNat, by omega⟩
      clear hbd0
      go_wp2_with fail
      refine (CI.out _).mono ?_
      rintro e w2 ⟨rfl, hb2⟩
      have J2 := hide (blk_own hb2 (blk_alloc w1 _))
      have H2 : Hid (Below w.heap.size w w2) := (H1.out.alloc H1.out.size _).trans (hb2.mono (by simp; omega))
      obtain ⟨⟨j0, j1, j2, j3, j4⟩, -⟩ := cells5 J2.out
      clear hb2
      go_wp2_with fail
      refine (CS.out _).mono ?_
      rintro e w3 ⟨rfl, hb3⟩
      have J3 := hide (blk_own hb3 J2.out)
      have H3 : Hid (Below w.heap.size w w3) := H2.out.trans (hb3.mono H2.out.size)
      clear hb3 j0 j1 j2 j3 j4
      obtain ⟨⟨j0, j1, j2, j3, j4⟩, -⟩ := cells5 J3.out
      go_wp2_with fail
      have X3 := hide (blk_alloc w3 (.cells #[.int .i64 s, .int .i64 t, .int .i64 d, .int .i64 k, .int .i64 x] 25))
      go_loopg [6] n (fun gk s6 wr => ∃ (m : Nat) (s t d k x : Int), m + gk = n ∧ s6 = .int .i64 (m : Int) ∧ VJ s t d k x ∧ workI s t d x = gk ∧ wr.heap[w3.heap.size]? = some (.cells #[.int .i64 s, .int .i64 t, .int .i64 d, .int .i64 k, .int .i64 x] 25) ∧ Below w.heap.size w wr)
      case atStart => exact ⟨0, s, t, d, k, x, by omega, rfl, HV.out, HE.out.symm, X3.out, H3.out.alloc H3.out.size _⟩
      case round =>
        clear HV HE CI CS J2 J3 H2 X3 j0 j1 j2 j3 j4 hs1
        obtain ⟨m, s, t, d, k, x, hm, rfl, hv, hw, hS, hbw⟩ := hrel
        have HS := hide hS
        have HW := hide hbw
        have HV := hide hv
        have hsr : w3.heap.size < wr.heap.size := lt_block hS
        have hf := vj_facts hv
        obtain ⟨⟨t0, t1, d0, d1, k0, k1, x0, x1⟩, -, -, s0, s4⟩ := hf
        have hne : w3.heap.size ≠ wr.heap.size := by omega
        obtain ⟨⟨j0, j1, j2, j3, j4⟩, -⟩ := cells5 hS
        clear hS hbw hv
        by_cases hmn : m = n
        · have hs3 : s = 3 := by unfold workI at hw; (repeat' split at hw) <;> omega
          subst hs3 hmn
          clear hw hm
          go_wp2_with fail
          go_ret
          exact ⟨rfl, HW.out⟩
        · have hlt : m < n := by omega
          have hpos : 0 < workI s t d x := by omega
          have hs : s = 0 ∨ s = 1 ∨ s = 2 := by unfold workI at hpos; (repeat' split at hpos) <;> omega
          have HP := hide hpos
          have HWk := hide hw
          clear hpos hw
          rcases hs with rfl | rfl | rfl
          · go_wp2_with fail
            refine (iStepJob_any 0 t d k x 1 _).mono ?_
            rintro e w8 ⟨s8, t8, d8, k8, x8, b8, rfl, hr8, hb8⟩
            obtain ⟨hb, hv8, hw8⟩ := best_step HV.out HP.out (by simp [bestEv]) hr8
            subst hb
            have S8 := hide (blk_own hb8 (blk_keep HS.out _))
            have H8 : Hid (Below w.heap.size w w8) := (HW.out.alloc HW.out.size _).trans (hb8.mono (by have := HW.out.size; simp; omega))
            have V8 := hide hv8
            have W8 : Hid (workI s8 t8 d8 x8 = (gk : Int) - 1) := by have := HWk.out; rw [this] at hw8; exact hw8
            have CY : Hid (∀ W : World, Calls Try.prog 17 #[(.agg #[.int .i64 s8, .int .i64 t8, .int .i64 d8, .int .i64 k8, .int .i64 x8])] W fun e w' => e = .returned (.int .i64 ((gk : Int) - 1)) ∧ Below W.heap.size W w') := fun W => by
              have h := iWorkLeft_any s8 t8 d8 k8 x8 W
              rw [workL_of V8.out, W8.out] at h; exact h
            have CX : Hid (∀ W : World, Calls Try.prog 17 #[(.agg #[.int .i64 0, .int .i64 t, .int .i64 d, .int .i64 k, .int .i64 x])] W fun e w' => e = .returned (.int .i64 (gk : Int)) ∧ Below W.heap.size W w') := fun W => by
              have h := iWorkLeft_any 0 t d k x W
              rw [workL_of HV.out, HWk.out] at h; exact h
            have hwr : IntKind.i64.wrap ((gk : Int) - 1) = (gk : Int) - 1 := IntWalk.i64_in _ (by omega)
            have hs8 : w3.heap.size < w8.heap.size := lt_block S8.out
            clear hb8 hr8 hv8 hw8 j0 j1 j2 j3 j4
            go_wp2_with fail
            have S9 := hide (blk_keep S8.out (.cells #[.int .i64 s8, .int .i64 t8, .int .i64 d8, .int .i64 k8, .int .i64 x8] 25))
            have Y9 := hide (blk_alloc w8 (.cells #[.int .i64 s8, .int .i64 t8, .int .i64 d8, .int .i64 k8, .int .i64 x8] 25))
            have H9 : Hid (Below w.heap.size w (w8.alloc (.cells #[.int .i64 s8, .int .i64 t8, .int .i64 d8, .int .i64 k8, .int .i64 x8] 25))) := H8.out.alloc H8.out.size _
            obtain ⟨m0, m1, m2, m3, m4⟩ := bw_cells5 S9.out
            obtain ⟨n0, n1, n2, n3, n4⟩ := bw_cells5 Y9.out
            refine wp_region_bw (by kernel_rfl) (by kernel_rfl) ?_
            repeat (go_big_quiet_step (first | (go_at_call 17; first | (with_reducible exact bw_of (CY.out _)) | (with_reducible exact bw_of (CX.out _)))))
            refine wpQuiet_nil ?_
            rintro _ ⟨z, rfl⟩
            have S10 := hide (bw_blk S9.out z)
            have Y10 := hide (bw_blk Y9.out z)
            have H10 : Hid (Below w.heap.size w z.v) := H9.out.trans (z.h.mono H9.out.size)
            clear m0 m1 m2 m3 m4 n0 n1 n2 n3 n4 S9 Y9 H9
            obtain ⟨wz, hwz⟩ : ∃ wz, wz = z.v := ⟨_, rfl⟩
            rw [← hwz] at S10 Y10 H10 ⊢
            clear hwz z
            have hw3 : w.heap.size ≤ w3.heap.size := H3.out.size
            obtain ⟨⟨m0, m1, m2, m3, m4⟩, g0, g1, g2, g3, g4⟩ := cells5 S10.out
            obtain ⟨⟨n0, n1, n2, n3, n4⟩, -⟩ := cells5 Y10.out
            have hne8 : w3.heap.size ≠ w8.heap.size := by omega
            go_wp2_with fail
            go_roundg (gk - 1)
            case measure => omega
            case rel => exact ⟨m + 1, s8, t8, d8, k8, x8, by omega, by go_num, V8.out, by rw [W8.out]; omega, blk_set5 S10.out, ((((H10.out.setCell (by simp; omega) _).setCell (by simp; omega) _).setCell (by simp; omega) _).setCell (by simp; omega) _).setCell (by simp; omega) _⟩
          · by_cases hdt : d = t
            · subst hdt
              go_wp2_with fail
              refine (iStepJob_any 1 d d k x 3 _).mono ?_
              rintro e w8 ⟨s8, t8, d8, k8, x8, b8, rfl, hr8, hb8⟩
              obtain ⟨hb, hv8, hw8⟩ := best_step HV.out HP.out (by simp [bestEv]) hr8
              subst hb
              have S8 := hide (blk_own hb8 (blk_keep HS.out _))
              have H8 : Hid (Below w.heap.size w w8) := (HW.out.alloc HW.out.size _).trans (hb8.mono (by have := HW.out.size; simp; omega))
              have V8 := hide hv8
              have W8 : Hid (workI s8 t8 d8 x8 = (gk : Int) - 1) := by have := HWk.out; rw [this] at hw8; exact hw8
              have CY : Hid (∀ W : World, Calls Try.prog 17 #[(.agg #[.int .i64 s8, .int .i64 t8, .int .i64 d8, .int .i64 k8, .int .i64 x8])] W fun e w' => e = .returned (.int .i64 ((gk : Int) - 1)) ∧ Below W.heap.size W w') := fun W => by
                have h := iWorkLeft_any s8 t8 d8 k8 x8 W
                rw [workL_of V8.out, W8.out] at h; exact h
              have CX : Hid (∀ W : World, Calls Try.prog 17 #[(.agg #[.int .i64 1, .int .i64 d, .int .i64 d, .int .i64 k, .int .i64 x])] W fun e w' => e = .returned (.int .i64 (gk : Int)) ∧ Below W.heap.size W w') := fun W => by
                have h := iWorkLeft_any 1 d d k x W
                rw [workL_of HV.out, HWk.out] at h; exact h
              have hwr : IntKind.i64.wrap ((gk : Int) - 1) = (gk : Int) - 1 := IntWalk.i64_in _ (by omega)
              have hs8 : w3.heap.size < w8.heap.size := lt_block S8.out
              clear hb8 hr8 hv8 hw8 j0 j1 j2 j3 j4
              go_wp2_with fail
              have S9 := hide (blk_keep S8.out (.cells #[.int .i64 s8, .int .i64 t8, .int .i64 d8, .int .i64 k8, .int .i64 x8] 25))
              have Y9 := hide (blk_alloc w8 (.cells #[.int .i64 s8, .int .i64 t8, .int .i64 d8, .int .i64 k8, .int .i64 x8] 25))
              have H9 : Hid (Below w.heap.size w (w8.alloc (.cells #[.int .i64 s8, .int .i64 t8, .int .i64 d8, .int .i64 k8, .int .i64 x8] 25))) := H8.out.alloc H8.out.size _
              obtain ⟨m0, m1, m2, m3, m4⟩ := bw_cells5 S9.out
              obtain ⟨n0, n1, n2, n3, n4⟩ := bw_cells5 Y9.out
              refine wp_region_bw (by kernel_rfl) (by kernel_rfl) ?_
              repeat (go_big_quiet_step (first | (go_at_call 17; first | (with_reducible exact bw_of (CY.out _)) | (with_reducible exact bw_of (CX.out _)))))
              refine wpQuiet_nil ?_
              rintro _ ⟨z, rfl⟩
              have S10 := hide (bw_blk S9.out z)
              have Y10 := hide (bw_blk Y9.out z)
              have H10 : Hid (Below w.heap.size w z.v) := H9.out.trans (z.h.mono H9.out.size)
              clear m0 m1 m2 m3 m4 n0 n1 n2 n3 n4 S9 Y9 H9
              obtain ⟨wz, hwz⟩ : ∃ wz, wz = z.v := ⟨_, rfl⟩
              rw [← hwz] at S10 Y10 H10 ⊢
              clear hwz z
              have hw3 : w.heap.size ≤ w3.heap.size := H3.out.size
              obtain ⟨⟨m0, m1, m2, m3, m4⟩, g0, g1, g2, g3, g4⟩ := cells5 S10.out
              obtain ⟨⟨n0, n1, n2, n3, n4⟩, -⟩ := cells5 Y10.out
              have hne8 : w3.heap.size ≠ w8.heap.size := by omega
              go_wp2_with fail
              go_roundg (gk - 1)
              case measure => omega
              case rel => exact ⟨m + 1, s8, t8, d8, k8, x8, by omega, by go_num, V8.out, by rw [W8.out]; omega, blk_set5 S10.out, ((((H10.out.setCell (by simp; omega) _).setCell (by simp; omega) _).setCell (by simp; omega) _).setCell (by simp; omega) _).setCell (by simp; omega) _⟩
            · have hdtb : (d == t) = false := by simpa using hdt
              go_wp2_with fail
              refine (iStepJob_any 1 t d k x 2 _).mono ?_
              rintro e w8 ⟨s8, t8, d8, k8, x8, b8, rfl, hr8, hb8⟩
              obtain ⟨hb, hv8, hw8⟩ := best_step HV.out HP.out (by simp [bestEv, hdt]) hr8
              subst hb
              have S8 := hide (blk_own hb8 (blk_keep HS.out _))
              have H8 : Hid (Below w.heap.size w w8) := (HW.out.alloc HW.out.size _).trans (hb8.mono (by have := HW.out.size; simp; omega))
              have V8 := hide hv8
              have W8 : Hid (workI s8 t8 d8 x8 = (gk : Int) - 1) := by have := HWk.out; rw [this] at hw8; exact hw8
              have CY : Hid (∀ W : World, Calls Try.prog 17 #[(.agg #[.int .i64 s8, .int .i64 t8, .int .i64 d8, .int .i64 k8, .int .i64 x8])] W fun e w' => e = .returned (.int .i64 ((gk : Int) - 1)) ∧ Below W.heap.size W w') := fun W => by
                have h := iWorkLeft_any s8 t8 d8 k8 x8 W
                rw [workL_of V8.out, W8.out] at h; exact h
              have CX : Hid (∀ W : World, Calls Try.prog 17 #[(.agg #[.int .i64 1, .int .i64 t, .int .i64 d, .int .i64 k, .int .i64 x])] W fun e w' => e = .returned (.int .i64 (gk : Int)) ∧ Below W.heap.size W w') := fun W => by
                have h := iWorkLeft_any 1 t d k x W
                rw [workL_of HV.out, HWk.out] at h; exact h
              have hwr : IntKind.i64.wrap ((gk : Int) - 1) = (gk : Int) - 1 := IntWalk.i64_in _ (by omega)
              have hs8 : w3.heap.size < w8.heap.size := lt_block S8.out
              clear hb8 hr8 hv8 hw8 j0 j1 j2 j3 j4
              go_wp2_with fail
              have S9 := hide (blk_keep S8.out (.cells #[.int .i64 s8, .int .i64 t8, .int .i64 d8, .int .i64 k8, .int .i64 x8] 25))
              have Y9 := hide (blk_alloc w8 (.cells #[.int .i64 s8, .int .i64 t8, .int .i64 d8, .int .i64 k8, .int .i64 x8] 25))
              have H9 : Hid (Below w.heap.size w (w8.alloc (.cells #[.int .i64 s8, .int .i64 t8, .int .i64 d8, .int .i64 k8, .int .i64 x8] 25))) := H8.out.alloc H8.out.size _
              obtain ⟨m0, m1, m2, m3, m4⟩ := bw_cells5 S9.out
              obtain ⟨n0, n1, n2, n3, n4⟩ := bw_cells5 Y9.out
              refine wp_region_bw (by kernel_rfl) (by kernel_rfl) ?_
              repeat (go_big_quiet_step (first | (go_at_call 17; first | (with_reducible exact bw_of (CY.out _)) | (with_reducible exact bw_of (CX.out _)))))
              refine wpQuiet_nil ?_
              rintro _ ⟨z, rfl⟩
              have S10 := hide (bw_blk S9.out z)
              have Y10 := hide (bw_blk Y9.out z)
              have H10 : Hid (Below w.heap.size w z.v) := H9.out.trans (z.h.mono H9.out.size)
              clear m0 m1 m2 m3 m4 n0 n1 n2 n3 n4 S9 Y9 H9
              obtain ⟨wz, hwz⟩ : ∃ wz, wz = z.v := ⟨_, rfl⟩
              rw [← hwz] at S10 Y10 H10 ⊢
              clear hwz z
              have hw3 : w.heap.size ≤ w3.heap.size := H3.out.size
              obtain ⟨⟨m0, m1, m2, m3, m4⟩, g0, g1, g2, g3, g4⟩ := cells5 S10.out
              obtain ⟨⟨n0, n1, n2, n3, n4⟩, -⟩ := cells5 Y10.out
              have hne8 : w3.heap.size ≠ w8.heap.size := by omega
              go_wp2_with fail
              go_roundg (gk - 1)
              case measure => omega
              case rel => exact ⟨m + 1, s8, t8, d8, k8, x8, by omega, by go_num, V8.out, by rw [W8.out]; omega, blk_set5 S10.out, ((((H10.out.setCell (by simp; omega) _).setCell (by simp; omega) _).setCell (by simp; omega) _).setCell (by simp; omega) _).setCell (by simp; omega) _⟩
          · go_wp2_with fail
            refine (iStepJob_any 2 t d k x 5 _).mono ?_
            rintro e w8 ⟨s8, t8, d8, k8, x8, b8, rfl, hr8, hb8⟩
            obtain ⟨hb, hv8, hw8⟩ := best_step HV.out HP.out (by simp [bestEv]) hr8
            subst hb
            have S8 := hide (blk_own hb8 (blk_keep HS.out _))
            have H8 : Hid (Below w.heap.size w w8) := (HW.out.alloc HW.out.size _).trans (hb8.mono (by have := HW.out.size; simp; omega))
            have V8 := hide hv8
            have W8 : Hid (workI s8 t8 d8 x8 = (gk : Int) - 1) := by have := HWk.out; rw [this] at hw8; exact hw8
            have CY : Hid (∀ W : World, Calls Try.prog 17 #[(.agg #[.int .i64 s8, .int .i64 t8, .int .i64 d8, .int .i64 k8, .int .i64 x8])] W fun e w' => e = .returned (.int .i64 ((gk : Int) - 1)) ∧ Below W.heap.size W w') := fun W => by
              have h := iWorkLeft_any s8 t8 d8 k8 x8 W
              rw [workL_of V8.out, W8.out] at h; exact h
            have CX : Hid (∀ W : World, Calls Try.prog 17 #[(.agg #[.int .i64 2, .int .i64 t, .int .i64 d, .int .i64 k, .int .i64 x])] W fun e w' => e = .returned (.int .i64 (gk : Int)) ∧ Below W.heap.size W w') := fun W => by
              have h := iWorkLeft_any 2 t d k x W
              rw [workL_of HV.out, HWk.out] at h; exact h
            have hwr : IntKind.i64.wrap ((gk : Int) - 1) = (gk : Int) - 1 := IntWalk.i64_in _ (by omega)
            have hs8 : w3.heap.size < w8.heap.size := lt_block S8.out
            clear hb8 hr8 hv8 hw8 j0 j1 j2 j3 j4
            go_wp2_with fail
            have S9 := hide (blk_keep S8.out (.cells #[.int .i64 s8, .int .i64 t8, .int .i64 d8, .int .i64 k8, .int .i64 x8] 25))
            have Y9 := hide (blk_alloc w8 (.cells #[.int .i64 s8, .int .i64 t8, .int .i64 d8, .int .i64 k8, .int .i64 x8] 25))
            have H9 : Hid (Below w.heap.size w (w8.alloc (.cells #[.int .i64 s8, .int .i64 t8, .int .i64 d8, .int .i64 k8, .int .i64 x8] 25))) := H8.out.alloc H8.out.size _
            obtain ⟨m0, m1, m2, m3, m4⟩ := bw_cells5 S9.out
            obtain ⟨n0, n1, n2, n3, n4⟩ := bw_cells5 Y9.out
            refine wp_region_bw (by kernel_rfl) (by kernel_rfl) ?_
            repeat (go_big_quiet_step (first | (go_at_call 17; first | (with_reducible exact bw_of (CY.out _)) | (with_reducible exact bw_of (CX.out _)))))
            refine wpQuiet_nil ?_
            rintro _ ⟨z, rfl⟩
            have S10 := hide (bw_blk S9.out z)
            have Y10 := hide (bw_blk Y9.out z)
            have H10 : Hid (Below w.heap.size w z.v) := H9.out.trans (z.h.mono H9.out.size)
            clear m0 m1 m2 m3 m4 n0 n1 n2 n3 n4 S9 Y9 H9
            obtain ⟨wz, hwz⟩ : ∃ wz, wz = z.v := ⟨_, rfl⟩
            rw [← hwz] at S10 Y10 H10 ⊢
            clear hwz z
            have hw3 : w.heap.size ≤ w3.heap.size := H3.out.size
            obtain ⟨⟨m0, m1, m2, m3, m4⟩, g0, g1, g2, g3, g4⟩ := cells5 S10.out
            obtain ⟨⟨n0, n1, n2, n3, n4⟩, -⟩ := cells5 Y10.out
            have hne8 : w3.heap.size ≠ w8.heap.size := by omega
            go_wp2_with fail
            go_roundg (gk - 1)
            case measure => omega
            case rel => exact ⟨m + 1, s8, t8, d8, k8, x8, by omega, by go_num, V8.out, by rw [W8.out]; omega, blk_set5 S10.out, ((((H10.out.setCell (by simp; omega) _).setCell (by simp; omega) _).setCell (by simp; omega) _).setCell (by simp; omega) _).setCell (by simp; omega) _⟩
end Go.Proofs.Ytcfacldbmnlmoaa
