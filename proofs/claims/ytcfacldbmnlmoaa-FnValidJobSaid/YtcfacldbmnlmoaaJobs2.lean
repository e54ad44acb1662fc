/-
  Jobs: StepJob, CrashJob, WorkLeft of the program and of the reference.
-/
import Derived.Test.YtcfacldbmnlmoaaJobs
set_option linter.all false
namespace Go.Proofs.Ytcfacldbmnlmoaa
open Go.RowKit
set_option maxHeartbeats 4000000 in
set_option maxRecDepth 100000 in
/-- the reference's step, of a valid job -/
theorem sstep_any (s t d k x ev : Int) (w : World) (hv : VJ s t d k x) :
    Calls Try.prog 28 #[.agg #[.int .i64 s, .int .i64 t, .int .i64 d, .int .i64 k, .int .i64 x], .int .i64 ev] w (JobRet s t d k x ev w) := by
  obtain ⟨⟨ht0, ht1, hd0, hd1, hk0, hk1, hx0, hx1⟩, hs0, hs2, _⟩ := vj_facts hv
  have H0 := hide hs0
  have H2 := hide hs2
  have hV := hide hv
  clear hv hs0 hs2
  go_enter Try.func28, Try.ntmps28
  go_wp2
  all_goals go_tidy
  all_goals try simp only [beq_iff_eq, beq_eq_false_iff_ne, ne_eq] at *
  all_goals refine ⟨rfl, ?_⟩
  all_goals simp [JobRet, results, Try.results28, go_sem]
  all_goals refine ⟨_, _, _, _, _, ⟨rfl, rfl, rfl, rfl, rfl⟩, ?_, ((Below.refl _ _).alloc (Nat.le_refl _) _).alloc (by simp) _⟩
  all_goals have h0 := H0.out
  all_goals have h2 := H2.out
  all_goals first | exact stepR_f (by unfold CanEv; omega) | exact .yes rfl hV.out (.beg (by omega) (by omega) (by omega) (by omega) (by omega) (by omega) (by omega)) | exact .yes rfl hV.out (.scan (by omega) (by omega) (by omega) (by omega) (by omega) (by omega) (by omega) (by omega)) | exact .yes rfl hV.out (.done (by omega) (by omega) (by omega) (by omega) (by omega) (by omega) (by omega) (by omega)) | exact .yes rfl hV.out (.keep (by omega) (by omega) (by omega) (by omega) (by omega) (by omega) (by omega) (by omega)) | exact .yes rfl hV.out (.note (by omega) (by omega) (by omega) (by omega) (by omega) (by omega) (by omega) (by omega)) | exact .yes rfl hV.out (.drain (by omega) (by omega) (by omega) (by omega) (by omega) (by omega) (by omega) (by omega)) | exact .yes rfl hV.out (.ready (by omega) (by omega) (by omega) (by omega) (by omega) (by omega) (by omega) (by omega)) | exact .yes rfl hV.out (.stop (by omega) (by omega) (by omega) (by omega) (by omega) (by omega) (by omega))
end Go.Proofs.Ytcfacldbmnlmoaa
