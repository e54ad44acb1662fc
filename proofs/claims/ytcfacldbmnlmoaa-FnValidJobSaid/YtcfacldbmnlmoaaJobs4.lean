/-
  Jobs: StepJob of both, for every job; CrashJob, WorkLeft, toJob, eqJob.
-/
import Derived.Test.YtcfacldbmnlmoaaJobs2
import Derived.Test.YtcfacldbmnlmoaaJobs3
set_option linter.all false
namespace Go.Proofs.Ytcfacldbmnlmoaa
open Go.RowKit
set_option maxHeartbeats 1000000 in
set_option maxRecDepth 100000 in
theorem iStepJob_no (s t d k x ev : Int) (w : World) (hv : ¬ VJ s t d k x) :
    Calls Try.prog 22 #[.agg #[.int .i64 s, .int .i64 t, .int .i64 d, .int .i64 k, .int .i64 x], .int .i64 ev] w (JobRet s t d k x ev w) := by
  have hvb := vj_f hv
  have hV := hide hv
  clear hv
  go_enter Try.func22, Try.ntmps22
  go_wp2_with fail
  refine (iValidJob_any _ _ _ _ _ _).mono ?_
  rintro e w1 ⟨rfl, hb1⟩
  have B1 := hide (blk_own hb1 (blk_at (W := w.alloc _) (b := w.heap.size + 1) (by simp) _))
  obtain ⟨⟨c10, c11, c12, c13, c14⟩, f10, f11, f12, f13, f14⟩ := cells5 B1.out
  have hs1 := hb1.size
  simp at hs1
  have HB1 : Hid (Below w.heap.size w w1) := ((((Below.refl _ _).alloc (Nat.le_refl _) _).alloc (by simp) _).trans (hb1.mono (by simp; omega)))
  clear hb1
  go_wp2
  all_goals go_tidy
  all_goals refine ⟨rfl, ?_⟩
  all_goals simp [JobRet, results, Try.results22, go_sem, c10, c11, c12, c13, c14]
  all_goals refine ⟨_, _, _, _, _, ⟨rfl, rfl, rfl, rfl, rfl⟩, stepR_v hV.out, by repeat (first | (with_reducible refine Below.setCell ?_ (by simp) _) | (with_reducible exact HB1.out))⟩
theorem iStepJob_any (s t d k x ev : Int) (w : World) :
    Calls Try.prog 22 #[.agg #[.int .i64 s, .int .i64 t, .int .i64 d, .int .i64 k, .int .i64 x], .int .i64 ev] w (JobRet s t d k x ev w) := by
  by_cases hv : VJ s t d k x
  · exact iStepJob_yes s t d k x ev w hv
  · exact iStepJob_no s t d k x ev w hv
set_option maxHeartbeats 1000000 in
set_option maxRecDepth 100000 in
theorem sStepJob_any (s t d k x ev : Int) (w : World) :
    Calls Try.prog 21 #[.agg #[.int .i64 s, .int .i64 t, .int .i64 d, .int .i64 k, .int .i64 x], .int .i64 ev] w (JobRet s t d k x ev w) := by
  by_cases hv : VJ s t d k x
  · have hvb := vj_t hv
    have hV := hide hv
    clear hv
    go_enter Try.func21, Try.ntmps21
    go_wp2_with fail
    refine (svalidJob_any _ _ _ _ _ _).mono ?_
    rintro e w1 ⟨rfl, hb1⟩
    have B0 := hide (blk_own hb1 (blk_keep (blk_alloc w _) _))
    obtain ⟨⟨c00, c01, c02, c03, c04⟩, f00, f01, f02, f03, f04⟩ := cells5 B0.out
    have hs1 := hb1.size
    simp at hs1
    have B1 := hide (blk_own hb1 (blk_at (W := w.alloc _) (b := w.heap.size + 1) (by simp) _))
    have HB1 : Hid (Below w.heap.size w w1) := ((((Below.refl _ _).alloc (Nat.le_refl _) _).alloc (by simp) _).trans (hb1.mono (by simp; omega)))
    clear hb1
    go_wp2_with fail
    refine (sstep_any _ _ _ _ _ _ _ hV.out).mono ?_
    rintro e w2 ⟨s', t', d', k', x', b, rfl, hR, hb2⟩
    have HR := hide hR
    have B2 := hide (blk_own hb2 B1.out)
    obtain ⟨⟨c10, c11, c12, c13, c14⟩, f10, f11, f12, f13, f14⟩ := cells5 B2.out
    have HB2 : Hid (Below w.heap.size w w2) := HB1.out.trans (hb2.mono (by omega))
    clear hb2 hR c00 c01 c02 c03 c04 f00 f01 f02 f03 f04
    go_wp2_with fail
    all_goals go_tidy
    refine ⟨rfl, .tuple #[.agg #[.int .i64 s', .int .i64 t', .int .i64 d', .int .i64 k', .int .i64 x'], .bool b], by simp [results, Try.results21, go_sem, c10, c11, c12, c13, c14], ?_⟩
    refine ⟨_, _, _, _, _, _, rfl, HR.out, by repeat (first | (with_reducible refine Below.setCell ?_ (by simp) _) | (with_reducible exact HB2.out))⟩
  · have hvb := vj_f hv
    have hV := hide hv
    clear hv
    go_enter Try.func21, Try.ntmps21
    go_wp2_with fail
    refine (svalidJob_any _ _ _ _ _ _).mono ?_
    rintro e w1 ⟨rfl, hb1⟩
    have B1 := hide (blk_own hb1 (blk_at (W := w.alloc _) (b := w.heap.size + 1) (by simp) _))
    obtain ⟨⟨c10, c11, c12, c13, c14⟩, f10, f11, f12, f13, f14⟩ := cells5 B1.out
    have hs1 := hb1.size
    simp at hs1
    have HB1 : Hid (Below w.heap.size w w1) := ((((Below.refl _ _).alloc (Nat.le_refl _) _).alloc (by simp) _).trans (hb1.mono (by simp; omega)))
    clear hb1
    go_wp2_with fail
    all_goals go_tidy
    refine ⟨rfl, ?_⟩
    simp [JobRet, results, Try.results21, go_sem, c10, c11, c12, c13, c14]
    refine ⟨_, _, _, _, _, ⟨rfl, rfl, rfl, rfl, rfl⟩, stepR_v hV.out, by repeat (first | (with_reducible refine Below.setCell ?_ (by simp) _) | (with_reducible exact HB1.out))⟩
/-- CrashJob -/
def CrashRet (s t d k x : Int) (w : World) (e : Ending) (w' : World) : Prop :=
  ∃ s' t' d' k' x', e = .returned (.agg #[.int .i64 s', .int .i64 t', .int .i64 d', .int .i64 k', .int .i64 x']) ∧
    ((VJ s t d k x ∧ s' = s ∧ t' = t ∧ k' = k ∧ x' = x ∧ ((s = 1 ∧ d' = k) ∨ (s ≠ 1 ∧ d' = d))) ∨ (¬ VJ s t d k x ∧ s' = 0 ∧ t' = 0 ∧ d' = 0 ∧ k' = 0 ∧ x' = 0)) ∧ Below w.heap.size w w'
theorem crash_end {P : Program} {fn : Func} {a : Act} {w w' : World} {s t d k x s' t' d' k' x' : Int} (hd : a.defers = []) (hr : (results fn a.tmps).run P w' = .ok (.agg #[.int .i64 s', .int .i64 t', .int .i64 d', .int .i64 k', .int .i64 x']) w')
    (h : (VJ s t d k x ∧ s' = s ∧ t' = t ∧ k' = k ∧ x' = x ∧ ((s = 1 ∧ d' = k) ∨ (s ≠ 1 ∧ d' = d))) ∨ (¬ VJ s t d k x ∧ s' = 0 ∧ t' = 0 ∧ d' = 0 ∧ k' = 0 ∧ x' = 0)) (hb : Below w.heap.size w w') :
    bodyPost P fn (CrashRet s t d k x w) .ret a w' := ⟨hd, _, hr, _, _, _, _, _, rfl, h, hb⟩
set_option maxHeartbeats 1000000 in
set_option maxRecDepth 100000 in
theorem iCrashJob_any (s t d k x : Int) (w : World) :
    Calls Try.prog 19 #[.agg #[.int .i64 s, .int .i64 t, .int .i64 d, .int .i64 k, .int .i64 x]] w (CrashRet s t d k x w) := by
  go_enter Try.func19, Try.ntmps19
  go_wp2_with fail
  refine (iValidJob_any _ _ _ _ _ _).mono ?_
  rintro e w1 ⟨rfl, hb1⟩
  have B0 := hide (blk_own hb1 (blk_keep (blk_alloc w _) _))
  have B1 := hide (blk_own hb1 (blk_at (W := w.alloc _) (b := w.heap.size + 1) (by simp) _))
  obtain ⟨⟨c00, c01, c02, c03, c04⟩, f00, f01, f02, f03, f04⟩ := cells5 B0.out
  obtain ⟨⟨c10, c11, c12, c13, c14⟩, f10, f11, f12, f13, f14⟩ := cells5 B1.out
  have hs1 := hb1.size
  simp at hs1
  have HB1 : Hid (Below w.heap.size w w1) := ((((Below.refl _ _).alloc (Nat.le_refl _) _).alloc (by simp) _).trans (hb1.mono (by simp; omega)))
  clear hb1
  have hvb : ∀ b, vjB s t d k x = b → (b = true ∧ VJ s t d k x) ∨ (b = false ∧ ¬ VJ s t d k x) := fun b h => by cases b; exact .inr ⟨rfl, vj_not h⟩; exact .inl ⟨rfl, vj_of h⟩
  generalize vjB s t d k x = vb at hvb ⊢
  obtain ⟨rfl, hv⟩ | ⟨rfl, hv⟩ := hvb _ rfl
  all_goals
    clear hvb
    have HV := hide hv
    clear hv
    by_cases h1 : s = 1
    all_goals
      go_wp2_with fail
      all_goals go_tidy
      all_goals refine ⟨rfl, ?_⟩
      all_goals simp [CrashRet, results, Try.results19, go_sem, c10, c11, c12, c13, c14]
      all_goals refine ⟨_, _, _, _, _, ⟨rfl, rfl, rfl, rfl, rfl⟩, ?_, by repeat (first | (with_reducible refine Below.setCell ?_ (by simp) _) | (with_reducible exact HB1.out))⟩
      all_goals have hv := HV.out
      all_goals first | exact .inl ⟨hv, by omega, rfl, rfl, rfl, by omega⟩ | exact .inr ⟨hv, rfl, rfl, rfl, rfl, rfl⟩
set_option maxHeartbeats 1000000 in
set_option maxRecDepth 100000 in
theorem sCrashJob_any (s t d k x : Int) (w : World) :
    Calls Try.prog 18 #[.agg #[.int .i64 s, .int .i64 t, .int .i64 d, .int .i64 k, .int .i64 x]] w (CrashRet s t d k x w) := by
  go_enter Try.func18, Try.ntmps18
  go_wp2_with fail
  refine (svalidJob_any _ _ _ _ _ _).mono ?_
  rintro e w1 ⟨rfl, hb1⟩
  have B0 := hide (blk_own hb1 (blk_keep (blk_alloc w _) _))
  have B1 := hide (blk_own hb1 (blk_at (W := w.alloc _) (b := w.heap.size + 1) (by simp) _))
  obtain ⟨⟨c00, c01, c02, c03, c04⟩, f00, f01, f02, f03, f04⟩ := cells5 B0.out
  obtain ⟨⟨c10, c11, c12, c13, c14⟩, f10, f11, f12, f13, f14⟩ := cells5 B1.out
  have hs1 := hb1.size
  simp at hs1
  have HB1 : Hid (Below w.heap.size w w1) := ((((Below.refl _ _).alloc (Nat.le_refl _) _).alloc (by simp) _).trans (hb1.mono (by simp; omega)))
  clear hb1
  have hvb : ∀ b, vjB s t d k x = b → (b = true ∧ VJ s t d k x) ∨ (b = false ∧ ¬ VJ s t d k x) := fun b h => by cases b; exact .inr ⟨rfl, vj_not h⟩; exact .inl ⟨rfl, vj_of h⟩
  generalize vjB s t d k x = vb at hvb ⊢
  obtain ⟨rfl, hv⟩ | ⟨rfl, hv⟩ := hvb _ rfl
  all_goals
    clear hvb
    have HV := hide hv
    clear hv
    by_cases h1 : s = 1
    all_goals
      go_wp2_with fail
      all_goals go_tidy
      all_goals refine ⟨rfl, ?_⟩
      all_goals simp [CrashRet, results, Try.results18, go_sem, c10, c11, c12, c13, c14]
      all_goals refine ⟨_, _, _, _, _, ⟨rfl, rfl, rfl, rfl, rfl⟩, ?_, by repeat (first | (with_reducible refine Below.setCell ?_ (by simp) _) | (with_reducible exact HB1.out))⟩
      all_goals have hv := HV.out
      all_goals first | exact .inl ⟨hv, by omega, rfl, rfl, rfl, by omega⟩ | exact .inr ⟨hv, rfl, rfl, rfl, rfl, rfl⟩
def workI (s t d x : Int) : Int := if s = 0 then t + 3 else if s = 1 then t - d + x + 2 else if s = 2 then x + 1 else if s = 3 then 0 else -1
def workL (s t d k x : Int) : Int := if vjB s t d k x = true then workI s t d x else -1
set_option maxHeartbeats 1000000 in
set_option maxRecDepth 100000 in
theorem iWorkLeft_any (s t d k x : Int) (w : World) :
    Calls Try.prog 17 #[.agg #[.int .i64 s, .int .i64 t, .int .i64 d, .int .i64 k, .int .i64 x]] w fun e w' => e = .returned (.int .i64 (workL s t d k x)) ∧ Below w.heap.size w w' := by
  by_cases hv : VJ s t d k x
  · have hvb := vj_t hv
    obtain ⟨⟨ht0, ht1, hd0, hd1, hk0, hk1, hx0, hx1⟩, -, -, hs0, hs1⟩ := vj_facts hv
    clear hv
    have hw : workL s t d k x = workI s t d x := by simp [workL, hvb]
    rw [hw]
    clear hw
    have h5 : s = 0 ∨ s = 1 ∨ s = 2 ∨ s = 3 ∨ s = 4 := by omega
    clear hs0 hs1
    rcases h5 with rfl | rfl | rfl | rfl | rfl
    all_goals
      go_enter Try.func17, Try.ntmps17
      go_wp2_with fail
      refine (iValidJob_any _ _ _ _ _ _).mono ?_
      rintro e w1 ⟨rfl, hb1⟩
      have B0 := hide (blk_own hb1 (blk_alloc w _))
      obtain ⟨⟨c00, c01, c02, c03, c04⟩, f00, f01, f02, f03, f04⟩ := cells5 B0.out
      have HB1 : Hid (Below w.heap.size w w1) := ((Below.refl _ _).alloc (Nat.le_refl _) _).trans (hb1.mono (by simp))
      clear hb1
      go_wp2_with fail
      go_ret
      exact ⟨ret_int (by simp [workI]; try omega), HB1.out⟩
  · have hvb := vj_f hv
    clear hv
    have hw : workL s t d k x = -1 := by simp [workL, hvb]
    rw [hw]
    clear hw
    go_enter Try.func17, Try.ntmps17
    go_wp2_with fail
    refine (iValidJob_any _ _ _ _ _ _).mono ?_
    rintro e w1 ⟨rfl, hb1⟩
    have HB1 : Hid (Below w.heap.size w w1) := ((Below.refl _ _).alloc (Nat.le_refl _) _).trans (hb1.mono (by simp))
    clear hb1
    go_wp2_with fail
    go_ret
    exact ⟨rfl, HB1.out⟩
set_option maxHeartbeats 1000000 in
set_option maxRecDepth 100000 in
theorem sWorkLeft_any (s t d k x : Int) (w : World) :
    Calls Try.prog 16 #[.agg #[.int .i64 s, .int .i64 t, .int .i64 d, .int .i64 k, .int .i64 x]] w fun e w' => e = .returned (.int .i64 (workL s t d k x)) ∧ Below w.heap.size w w' := by
  by_cases hv : VJ s t d k x
  · have hvb := vj_t hv
    obtain ⟨⟨ht0, ht1, hd0, hd1, hk0, hk1, hx0, hx1⟩, -, -, hs0, hs1⟩ := vj_facts hv
    clear hv
    have hw : workL s t d k x = workI s t d x := by simp [workL, hvb]
    rw [hw]
    clear hw
    have h5 : s = 0 ∨ s = 1 ∨ s = 2 ∨ s = 3 ∨ s = 4 := by omega
    clear hs0 hs1
    rcases h5 with rfl | rfl | rfl | rfl | rfl
    all_goals
      go_enter Try.func16, Try.ntmps16
      go_wp2_with fail
      refine (svalidJob_any _ _ _ _ _ _).mono ?_
      rintro e w1 ⟨rfl, hb1⟩
      have B0 := hide (blk_own hb1 (blk_alloc w _))
      obtain ⟨⟨c00, c01, c02, c03, c04⟩, f00, f01, f02, f03, f04⟩ := cells5 B0.out
      have HB1 : Hid (Below w.heap.size w w1) := ((Below.refl _ _).alloc (Nat.le_refl _) _).trans (hb1.mono (by simp))
      clear hb1
      go_wp2_with fail
      go_ret
      exact ⟨ret_int (by simp [workI]; try omega), HB1.out⟩
  · have hvb := vj_f hv
    clear hv
    have hw : workL s t d k x = -1 := by simp [workL, hvb]
    rw [hw]
    clear hw
    go_enter Try.func16, Try.ntmps16
    go_wp2_with fail
    refine (svalidJob_any _ _ _ _ _ _).mono ?_
    rintro e w1 ⟨rfl, hb1⟩
    have HB1 : Hid (Below w.heap.size w w1) := ((Below.refl _ _).alloc (Nat.le_refl _) _).trans (hb1.mono (by simp))
    clear hb1
    go_wp2_with fail
    go_ret
    exact ⟨rfl, HB1.out⟩
set_option maxHeartbeats 1000000 in
set_option maxRecDepth 100000 in
theorem toJob_any (s t d k x : Int) (w : World) :
    Calls Try.prog 14 #[.agg #[.int .i64 s, .int .i64 t, .int .i64 d, .int .i64 k, .int .i64 x]] w fun e w' => e = .returned (.agg #[.int .i64 s, .int .i64 t, .int .i64 d, .int .i64 k, .int .i64 x]) ∧ Below w.heap.size w w' := by
  go_enter Try.func14, Try.ntmps14
  go_wp2_with fail
  all_goals go_tidy
  refine ⟨rfl, .agg #[.int .i64 s, .int .i64 t, .int .i64 d, .int .i64 k, .int .i64 x], by simp [results, Try.results14, go_sem], rfl, ?_⟩
  repeat (first | (with_reducible exact Below.refl _ _) | (with_reducible refine Below.setCell ?_ (by simp) _) | (with_reducible refine Below.alloc ?_ (by simp <;> omega) _))
set_option maxHeartbeats 1000000 in
set_option maxRecDepth 100000 in
theorem eqJob_same (s t d k x : Int) (w : World) :
    Calls Try.prog 20 #[.agg #[.int .i64 s, .int .i64 t, .int .i64 d, .int .i64 k, .int .i64 x], .agg #[.int .i64 s, .int .i64 t, .int .i64 d, .int .i64 k, .int .i64 x]] w fun e w' => e = .returned (.bool true) ∧ Below w.heap.size w w' := by
  go_enter Try.func20, Try.ntmps20
  go_wp2_with fail
  go_ret
  refine ⟨rfl, ?_⟩
  repeat (first | (with_reducible exact Below.refl _ _) | (with_reducible refine Below.setCell ?_ (by simp) _) | (with_reducible refine Below.alloc ?_ (by simp <;> omega) _))
end Go.Proofs.Ytcfacldbmnlmoaa
