/-
  widen of the specification at any number that is not too great; the numbers of a format after a change.
-/
import Derived.Test.YtdijcdadcbhipaaDoorFCh
import Derived.Test.YtdijcdadcbhipaaDoorFR2
set_option linter.all false
namespace Go.Proofs.YtdijcdadcbhipaaDoor
open Go.RowKit
/-- a number that is not too great, and a text that a length can measure -/
def numV (v : RVal) : Prop := -9999999 ≤ v.n ∧ v.n ≤ 9999999
theorem num_val {v : RVal} (h : valB v = true) : numV v := by
  unfold valB at h
  unfold numV
  split at h
  · simp at h; omega
  · split at h
    · simp at h; omega
    · split at h
      · simp at h; omega
      · cases h
theorem num_wid {v : RVal} (h : numV v) : numV (widV v) := by
  unfold widV
  split
  · unfold numV; simp
  · exact h
theorem okV_widN {v : RVal} (h : okV v) (hn : numV v) : okV (widV v) := by
  unfold widV
  split
  · unfold numV at hn
    have := decT_size v.n (by omega) (by omega)
    unfold okV; simp only; omega
  · exact h
def goodV (v : RVal) : Prop := okV v ∧ numV v
def goodC (c : RCol) : Prop := goodV c.d
theorem good_newC {f : List RCol} {c : RChg} (h : ∀ x ∈ f, goodC x) (hc : goodC c.c) : ∀ x ∈ newC f c, goodC x := by
  intro x hx
  unfold newC at hx
  split at hx
  · simp only [List.mem_append, List.mem_singleton] at hx
    rcases hx with (hx | rfl) | hx
    · exact h _ (List.mem_of_mem_take hx)
    · exact hc
    · exact h _ (List.mem_of_mem_drop hx)
  · split at hx
    · simp only [List.mem_append] at hx
      rcases hx with hx | hx
      · exact h _ (List.mem_of_mem_take hx)
      · exact h _ (List.mem_of_mem_drop hx)
    · simp only [List.mem_append, List.mem_map] at hx
      rcases hx with (hx | ⟨y, hy, rfl⟩) | hx
      · exact h _ (List.mem_of_mem_take hx)
      · have := h _ (List.mem_of_mem_drop (List.mem_of_mem_take hy))
        exact ⟨okV_widN this.1 this.2, num_wid this.2⟩
      · exact h _ (List.mem_of_mem_drop hx)
set_option maxHeartbeats 2000000 in
theorem swiden_num (v : RVal) (w : World) (hv : numV v) :
    Calls Tryd.prog 94 #[(.agg #[.int .i64 v.k, .int .i64 v.n, .string v.s])] w fun e w' => e = .returned (.agg #[.int .i64 (widV v).k, .int .i64 (widV v).n, .string (widV v).s]) ∧ Below w.heap.size w w' := by
  have HN := hide hv
  obtain ⟨k, n, s⟩ := v
  obtain ⟨W, hW⟩ : ∃ W, widV ⟨k, n, s⟩ = W := ⟨_, rfl⟩
  rw [hW]
  clear hv
  have HB := hide (below_box2 w (.cells #[.int .i64 k, .int .i64 n, .string s] 25) (.cells #[.int .i64 0, .int .i64 0, .string ⟨#[]⟩] 25))
  by_cases k1 : k = 1
  · subst k1
    obtain ⟨n0, n1⟩ : -9999999 ≤ n ∧ n ≤ 9999999 := HN.out
    have HD := hide (decimal_any n)
    have hx := blk_alloc (w.alloc (.cells #[.int .i64 1, .int .i64 n, .string s] 25)) (.cells #[.int .i64 0, .int .i64 0, .string ⟨#[]⟩] 25)
    have HX := hide hx
    rw [show widV ⟨1, n, s⟩ = ⟨2, 0, decT n⟩ from rfl] at hW
    subst hW
    generalize decT n = D at *
    clear hx HN
    go_enter Tryd.func94, Tryd.ntmps94
    go_wp2_with fail
    with_reducible refine (HD.out _ (by omega) (by omega)).mono ?_
    rintro e w1 ⟨rfl, hb1⟩
    have H1 := hide (HB.out.trans (hb1.mono HB.out.size))
    obtain ⟨⟨c0, c1, c2⟩, f0, f1, f2⟩ := cells3 (blk_own hb1 HX.out)
    simp only [World.size_alloc] at c0 c1 c2 f0 f1 f2
    clear hb1
    go_wp2_with fail
    all_goals go_tidy
    exact ⟨rfl, .agg #[.int .i64 2, .int .i64 0, .string D], by simp [results, Tryd.results94, go_sem, c0, c1, c2, f0, f1, f2], rfl, ((H1.out.setCell (by simp) _).setCell (by simp) _).setCell (by simp) _⟩
  · rw [show widV ⟨k, n, s⟩ = ⟨k, n, s⟩ from if_neg k1] at hW
    subst hW
    obtain ⟨x1, y1⟩ := i64_neq k1
    clear k1 HN
    go_enter Tryd.func94, Tryd.ntmps94
    go_wp2_with fail
    all_goals go_tidy
    exact ⟨rfl, .agg #[.int .i64 k, .int .i64 n, .string s], by simp [results, Tryd.results94, go_sem], rfl, below_box2 _ _ _⟩
end Go.Proofs.YtdijcdadcbhipaaDoor
