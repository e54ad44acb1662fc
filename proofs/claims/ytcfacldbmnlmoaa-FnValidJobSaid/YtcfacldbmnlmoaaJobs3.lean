/-
  Jobs: StepJob of the program.
-/
import Derived.Test.YtcfacldbmnlmoaaJobs
set_option linter.all false
namespace Go.Proofs.Ytcfacldbmnlmoaa
open Go.RowKit
set_option maxHeartbeats 4000000 in
set_option maxRecDepth 100000 in
theorem iStepJob_yes (s t d k x ev : Int) (w : World) (hv : VJ s t d k x) :
    Calls Try.prog 22 #[.agg #[.int .i64 s, .int .i64 t, .int .i64 d, .int .i64 k, .int .i64 x], .int .i64 ev] w (JobRet s t d k x ev w) := by
  obtain ⟨⟨ht0, ht1, hd0, hd1, hk0, hk1, hx0, hx1⟩, hs0, hs2, _⟩ := vj_facts hv
  have hvb := vj_t hv
  have H0 := hide hs0
  have H2 := hide hs2
  have hV := hide hv
  clear hv hs0 hs2
  go_enter Try.func22, Try.ntmps22
  go_wp2_with fail
  refine (iValidJob_any _ _ _ _ _ _).mono ?_
  rintro e w1 ⟨rfl, hb1⟩
  have B0 := hide (blk_own hb1 (blk_keep (blk_alloc w _) _))
  have B1 := hide (blk_own hb1 (blk_at (W := w.alloc _) (b := w.heap.size + 1) (by simp) _))
  obtain ⟨⟨c00, c01, c02, c03, c04⟩, f00, f01, f02, f03, f04⟩ := cells5 B0.out
  obtain ⟨⟨c10, c11, c12, c13, c14⟩, f10, f11, f12, f13, f14⟩ := cells5 B1.out
  have hs1 := hb1.size
  simp at hs1
  have HB1 : Hid (∀ n, Below w.heap.size w (w1.drewN n)) := fun n => below_drewN ((((Below.refl _ _).alloc (Nat.le_refl _) _).alloc (by simp) _).trans (hb1.mono (by simp; omega))) n
  clear hb1
  go_wp2
  go_quiet (fail)
  go_wp2
  all_goals go_tidy
  all_goals try simp only [beq_iff_eq, beq_eq_false_iff_ne, ne_eq] at *
  all_goals refine ⟨rfl, ?_⟩
  all_goals simp [JobRet, results, Try.results22, go_sem, c10, c11, c12, c13, c14]
  all_goals refine ⟨_, _, _, _, _, ⟨rfl, rfl, rfl, rfl, rfl⟩, ?_, by repeat (first | (with_reducible refine Below.setCell ?_ (by simp) _) | (with_reducible exact HB1.out _))⟩
  all_goals have h0 := H0.out
  all_goals have h2 := H2.out
  all_goals first | exact stepR_f (by unfold CanEv; omega) | exact .yes rfl hV.out (.beg (by omega) (by omega) (by omega) (by omega) (by omega) (by omega) (by omega)) | exact .yes rfl hV.out (.scan (by omega) (by omega) (by omega) (by omega) (by omega) (by omega) (by omega) (by omega)) | exact .yes rfl hV.out (.done (by omega) (by omega) (by omega) (by omega) (by omega) (by omega) (by omega) (by omega)) | exact .yes rfl hV.out (.keep (by omega) (by omega) (by omega) (by omega) (by omega) (by omega) (by omega) (by omega)) | exact .yes rfl hV.out (.note (by omega) (by omega) (by omega) (by omega) (by omega) (by omega) (by omega) (by omega)) | exact .yes rfl hV.out (.drain (by omega) (by omega) (by omega) (by omega) (by omega) (by omega) (by omega) (by omega)) | exact .yes rfl hV.out (.ready (by omega) (by omega) (by omega) (by omega) (by omega) (by omega) (by omega) (by omega)) | exact .yes rfl hV.out (.stop (by omega) (by omega) (by omega) (by omega) (by omega) (by omega) (by omega))
end Go.Proofs.Ytcfacldbmnlmoaa
