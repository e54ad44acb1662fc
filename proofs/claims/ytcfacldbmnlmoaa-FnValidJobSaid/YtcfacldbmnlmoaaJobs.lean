/-
  The functions on jobs, of the program and of the reference: what each returns, as linear facts on five numbers.
-/
import Derived.Test.YtcfacldbmnlmoaaReader
import Derived.Laws.ResultCell
set_option linter.all false
namespace Go.Proofs.Ytcfacldbmnlmoaa
open Go.RowKit
/-- a valid job -/
def VJ (s t d k x : Int) : Prop := 0 ≤ t ∧ t ≤ 20 ∧ 0 ≤ x ∧ x ≤ 20 ∧ 0 ≤ d ∧ d ≤ t ∧ 0 ≤ k ∧ k ≤ d ∧ ((s = 0 ∧ d = 0 ∧ x = 0) ∨ (s = 2 ∧ k = t) ∨ (s = 3 ∧ k = t ∧ x = 0) ∨ s = 1 ∨ s = 4)
instance (s t d k x : Int) : Decidable (VJ s t d k x) := by unfold VJ; infer_instance
def vjB (s t d k x : Int) : Bool := decide (VJ s t d k x)
theorem vj_t {s t d k x : Int} (h : VJ s t d k x) : vjB s t d k x = true := decide_eq_true h
theorem vj_f {s t d k x : Int} (h : ¬ VJ s t d k x) : vjB s t d k x = false := decide_eq_false h
theorem vj_eq {b : Bool} {s t d k x : Int} (h : b = true ↔ VJ s t d k x) : b = vjB s t d k x := by
  rw [Bool.eq_iff_iff, h]; exact (decide_eq_true_iff (p := VJ s t d k x)).symm
theorem vj_of {s t d k x : Int} (h : vjB s t d k x = true) : VJ s t d k x := of_decide_eq_true h
theorem vj_not {s t d k x : Int} (h : vjB s t d k x = false) : ¬ VJ s t d k x := of_decide_eq_false h
set_option maxHeartbeats 1000000 in
theorem iValidJob_any (s t d k x : Int) (w : World) :
    Calls Try.prog 15 #[.agg #[.int .i64 s, .int .i64 t, .int .i64 d, .int .i64 k, .int .i64 x]] w fun e w' => e = .returned (.bool (vjB s t d k x)) ∧ Below w.heap.size w w' := by
  go_enter Try.func15, Try.ntmps15
  go_wp2
  all_goals go_tidy
  all_goals try simp only [beq_iff_eq, beq_eq_false_iff_ne, ne_eq, Bool.not_eq_true', Bool.not_eq_false', decide_eq_true_eq, decide_eq_false_iff_not] at *
  all_goals go_ret
  all_goals refine ⟨ret_bool ?_, (Below.refl _ _).alloc (Nat.le_refl _) _⟩
  all_goals first | exact (vj_t (by unfold VJ; omega)).symm | exact (vj_f (by unfold VJ; omega)).symm | exact vj_eq (by simp only [VJ, beq_iff_eq, Bool.or_eq_true, Bool.and_eq_true]; omega)
set_option maxHeartbeats 1000000 in
theorem svalidJob_any (s t d k x : Int) (w : World) :
    Calls Try.prog 27 #[.agg #[.int .i64 s, .int .i64 t, .int .i64 d, .int .i64 k, .int .i64 x]] w fun e w' => e = .returned (.bool (vjB s t d k x)) ∧ Below w.heap.size w w' := by
  go_enter Try.func27, Try.ntmps27
  go_wp2_with (go_at_call 32; refine (inRange_any _ _ _ _).mono ?_; rintro e w' ⟨rfl, rfl⟩)
  all_goals go_tidy
  all_goals try simp only [beq_iff_eq, beq_eq_false_iff_ne, ne_eq, Bool.not_eq_true', Bool.not_eq_false', decide_eq_true_eq, decide_eq_false_iff_not] at *
  all_goals go_ret
  all_goals refine ⟨ret_bool ?_, (Below.refl _ _).alloc (Nat.le_refl _) _⟩
  all_goals first | exact (vj_t (by unfold VJ; omega)).symm | exact (vj_f (by unfold VJ; omega)).symm | exact vj_eq (by simp only [VJ, beq_iff_eq, Bool.or_eq_true, Bool.and_eq_true]; omega)
theorem sValidJob_any (s t d k x : Int) (w : World) :
    Calls Try.prog 13 #[.agg #[.int .i64 s, .int .i64 t, .int .i64 d, .int .i64 k, .int .i64 x]] w fun e w' => e = .returned (.bool (vjB s t d k x)) ∧ Below w.heap.size w w' := by
  go_enter Try.func13, Try.ntmps13
  go_wp2_with (go_at_call 27; refine (svalidJob_any _ _ _ _ _ _).mono ?_; rintro e w' ⟨rfl, hb⟩)
  go_ret
  exact ⟨rfl, ((Below.refl _ _).alloc (Nat.le_refl _) _).trans (hb.mono (by simp))⟩
/-- an event is possible -/
def CanEv (s t d k x ev : Int) : Prop := (ev = 1 ∧ s = 0) ∨ (ev = 2 ∧ s = 1 ∧ d < t) ∨ (ev = 3 ∧ s = 1) ∨ (ev = 4 ∧ (s = 1 ∨ s = 2) ∧ x < 20) ∨ (ev = 5 ∧ s = 2) ∨ (ev = 6 ∧ (s = 0 ∨ s = 1 ∨ s = 2))
/-- the job behind an event that is possible -/
inductive StepTo (s t d k x ev s' t' d' k' x' : Int) : Prop where
  | beg : ev = 1 → s = 0 → s' = 1 → t' = t → d' = d → k' = k → x' = x → StepTo s t d k x ev s' t' d' k' x'
  | scan : ev = 2 → s = 1 → d < t → s' = 1 → t' = t → d' = d + 1 → k' = k → x' = x → StepTo s t d k x ev s' t' d' k' x'
  | done : ev = 3 → s = 1 → d = t → s' = 2 → t' = t → d' = d → k' = d → x' = x → StepTo s t d k x ev s' t' d' k' x'
  | keep : ev = 3 → s = 1 → d < t → s' = 1 → t' = t → d' = d → k' = d → x' = x → StepTo s t d k x ev s' t' d' k' x'
  | note : ev = 4 → (s = 1 ∨ s = 2) → x < 20 → s' = s → t' = t → d' = d → k' = k → x' = x + 1 → StepTo s t d k x ev s' t' d' k' x'
  | drain : ev = 5 → s = 2 → 0 < x → s' = 2 → t' = t → d' = d → k' = k → x' = x - 1 → StepTo s t d k x ev s' t' d' k' x'
  | ready : ev = 5 → s = 2 → x = 0 → s' = 3 → t' = t → d' = d → k' = k → x' = x → StepTo s t d k x ev s' t' d' k' x'
  | stop : ev = 6 → (s = 0 ∨ s = 1 ∨ s = 2) → s' = 4 → t' = t → d' = d → k' = k → x' = x → StepTo s t d k x ev s' t' d' k' x'
/-- what StepJob returns -/
inductive StepR (s t d k x ev s' t' d' k' x' : Int) (b : Bool) : Prop where
  | yes : b = true → VJ s t d k x → StepTo s t d k x ev s' t' d' k' x' → StepR s t d k x ev s' t' d' k' x' b
  | no : b = false → ¬ (VJ s t d k x ∧ CanEv s t d k x ev) → s' = 0 → t' = 0 → d' = 0 → k' = 0 → x' = 0 → StepR s t d k x ev s' t' d' k' x' b
/-- what is known of a valid job, without a case -/
theorem vj_facts {s t d k x : Int} (h : VJ s t d k x) : (0 ≤ t ∧ t ≤ 20 ∧ 0 ≤ d ∧ d ≤ t ∧ 0 ≤ k ∧ k ≤ d ∧ 0 ≤ x ∧ x ≤ 20) ∧ (s = 0 → d = 0 ∧ k = 0 ∧ x = 0) ∧ (s = 2 → d = t ∧ k = t) ∧ 0 ≤ s ∧ s ≤ 4 := by
  unfold VJ at h; omega
theorem StepTo.can {s t d k x ev s' t' d' k' x' : Int} (h : StepTo s t d k x ev s' t' d' k' x') : CanEv s t d k x ev := by
  unfold CanEv; cases h <;> omega
theorem StepTo.det {s t d k x ev s' t' d' k' x' s2 t2 d2 k2 x2 : Int} (h : StepTo s t d k x ev s' t' d' k' x') (h2 : StepTo s t d k x ev s2 t2 d2 k2 x2) :
    s2 = s' ∧ t2 = t' ∧ d2 = d' ∧ k2 = k' ∧ x2 = x' := by
  cases h <;> cases h2 <;> omega
theorem StepR.det {s t d k x ev s' t' d' k' x' s2 t2 d2 k2 x2 : Int} {b b2 : Bool} (h : StepR s t d k x ev s' t' d' k' x' b) (h2 : StepR s t d k x ev s2 t2 d2 k2 x2 b2) :
    s2 = s' ∧ t2 = t' ∧ d2 = d' ∧ k2 = k' ∧ x2 = x' ∧ b2 = b := by
  cases h with
  | yes hb hv ht => cases h2 with
    | yes hb2 _ ht2 => obtain ⟨a, b, c, d, e⟩ := ht.det ht2; exact ⟨a, b, c, d, e, hb2.trans hb.symm⟩
    | no _ hn => exact absurd ⟨hv, ht.can⟩ hn
  | no hb hn a1 a2 a3 a4 a5 => cases h2 with
    | yes _ hv ht => exact absurd ⟨hv, ht.can⟩ hn
    | no hb2 _ b1 b2 b3 b4 b5 => exact ⟨b1.trans a1.symm, b2.trans a2.symm, b3.trans a3.symm, b4.trans a4.symm, b5.trans a5.symm, hb2.trans hb.symm⟩
theorem stepR_f {s t d k x ev : Int} (h : ¬ CanEv s t d k x ev) : StepR s t d k x ev 0 0 0 0 0 false := .no rfl (fun hh => h hh.2) rfl rfl rfl rfl rfl
theorem stepR_v {s t d k x ev : Int} (h : ¬ VJ s t d k x) : StepR s t d k x ev 0 0 0 0 0 false := .no rfl (fun hh => h hh.1) rfl rfl rfl rfl rfl
def JobRet (s t d k x ev : Int) (w : World) (e : Ending) (w' : World) : Prop :=
  ∃ s' t' d' k' x' b, e = .returned (.tuple #[.agg #[.int .i64 s', .int .i64 t', .int .i64 d', .int .i64 k', .int .i64 x'], .bool b]) ∧ StepR s t d k x ev s' t' d' k' x' b ∧ Below w.heap.size w w'
end Go.Proofs.Ytcfacldbmnlmoaa
