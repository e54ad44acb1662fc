/-
  A value as a text: the program's and the specification's.
-/
import Derived.Test.YtdijcdadcbhipaaDoorFP
set_option linter.all false
namespace Go.Proofs.YtdijcdadcbhipaaDoor
open Go.RowKit
def widV (v : RVal) : RVal := if v.k = 1 then ⟨2, 0, decT v.n⟩ else v
theorem val_num {v : RVal} (h : valB v = true) (hk : v.k = 1) : -999999 ≤ v.n ∧ v.n ≤ 999999 := by
  unfold valB at h
  rw [if_neg (by omega), if_pos hk] at h
  simp at h; exact h.1
theorem okV_wid {v : RVal} (h : okV v) (hv : valB v = true) : okV (widV v) := by
  unfold widV
  by_cases hk : v.k = 1
  · rw [if_pos hk]
    have := val_num hv hk
    have := decT_size v.n (by omega) (by omega)
    unfold okV; simp only; omega
  · rw [if_neg hk]; exact h
set_option maxHeartbeats 2000000 in
theorem swiden_any (v : RVal) (w : World) (hv : valB v = true) :
    Calls Tryd.prog 94 #[(.agg #[.int .i64 v.k, .int .i64 v.n, .string v.s])] w fun e w' => e = .returned (.agg #[.int .i64 (widV v).k, .int .i64 (widV v).n, .string (widV v).s]) ∧ Below w.heap.size w w' := by
  have HN := hide (fun hk => val_num hv hk)
  obtain ⟨k, n, s⟩ := v
  obtain ⟨W, hW⟩ : ∃ W, widV ⟨k, n, s⟩ = W := ⟨_, rfl⟩
  rw [hW]
  clear hv
  have HB := hide (below_box2 w (.cells #[.int .i64 k, .int .i64 n, .string s] 25) (.cells #[.int .i64 0, .int .i64 0, .string ⟨#[]⟩] 25))
  by_cases k1 : k = 1
  · subst k1
    obtain ⟨n0, n1⟩ : -999999 ≤ n ∧ n ≤ 999999 := HN.out rfl
    have HD := hide (decimal_any n)
    have hx := blk_alloc (w.alloc (.cells #[.int .i64 1, .int .i64 n, .string s] 25)) (.cells #[.int .i64 0, .int .i64 0, .string ⟨#[]⟩] 25)
    have HX := hide hx
    rw [show widV ⟨1, n, s⟩ = ⟨2, 0, decT n⟩ from rfl] at hW
    subst hW
    generalize decT n = D at *
    clear hx HN
    go_enter Tryd.func94, Tryd.ntmps94
    go_wp2_with fail
    with_reducible refine (HD.out _ (by omega) (by omega)).mono ?_
    rintro e w1 ⟨rfl, hb1⟩
    have H1 := hide (HB.out.trans (hb1.mono HB.out.size))
    obtain ⟨⟨c0, c1, c2⟩, f0, f1, f2⟩ := cells3 (blk_own hb1 HX.out)
    simp only [World.size_alloc] at c0 c1 c2 f0 f1 f2
    clear hb1
    go_wp2_with fail
    all_goals go_tidy
    exact ⟨rfl, .agg #[.int .i64 2, .int .i64 0, .string D], by simp [results, Tryd.results94, go_sem, c0, c1, c2, f0, f1, f2], rfl, ((H1.out.setCell (by simp) _).setCell (by simp) _).setCell (by simp) _⟩
  · rw [show widV ⟨k, n, s⟩ = ⟨k, n, s⟩ from if_neg k1] at hW
    subst hW
    obtain ⟨x1, y1⟩ := i64_neq k1
    clear k1 HN
    go_enter Tryd.func94, Tryd.ntmps94
    go_wp2_with fail
    all_goals go_tidy
    exact ⟨rfl, .agg #[.int .i64 k, .int .i64 n, .string s], by simp [results, Tryd.results94, go_sem], rfl, below_box2 _ _ _⟩
set_option maxHeartbeats 2000000 in
theorem iwiden_any (v : RVal) (w : World) (hv : valB v = true) (ht : Tab w) :
    Calls Tryd.prog 58 #[(.agg #[.int .i64 v.k, .int .i64 v.n, .string v.s])] w fun e w' => e = .returned (.agg #[.int .i64 (widV v).k, .int .i64 (widV v).n, .string (widV v).s]) ∧ Below w.heap.size w w' := by
  have HN := hide (fun hk => val_num hv hk)
  obtain ⟨k, n, s⟩ := v
  obtain ⟨W, hW⟩ : ∃ W, widV ⟨k, n, s⟩ = W := ⟨_, rfl⟩
  rw [hW]
  have HV := hide (ivalidValue_lit k n s)
  rw [hv] at HV
  clear hv
  have HB := hide (below_box2 w (.cells #[.int .i64 k, .int .i64 n, .string s] 25) (.cells #[.int .i64 0, .int .i64 0, .string ⟨#[]⟩] 25))
  have HX := hide (blk_alloc (w.alloc (.cells #[.int .i64 k, .int .i64 n, .string s] 25)) (.cells #[.int .i64 0, .int .i64 0, .string ⟨#[]⟩] 25))
  have HY := hide (blk_keep (blk_alloc w (.cells #[.int .i64 k, .int .i64 n, .string s] 25)) (.cells #[.int .i64 0, .int .i64 0, .string ⟨#[]⟩] 25))
  by_cases k1 : k = 1
  · subst k1
    obtain ⟨n0, n1⟩ : -999999 ≤ n ∧ n ≤ 999999 := HN.out rfl
    have HD := hide (itoa_any n (by omega) (by omega))
    rw [show widV ⟨1, n, s⟩ = ⟨2, 0, decT n⟩ from rfl] at hW
    subst hW
    generalize decT n = D at *
    clear HN
    go_enter Tryd.func58, Tryd.ntmps58
    go_wp2_with fail
    with_reducible refine (HV.out _).mono ?_
    rintro e w1 ⟨rfl, hb1⟩
    have H1 := hide (HB.out.trans (hb1.mono HB.out.size))
    have HX1 := hide (blk_own hb1 HX.out)
    obtain ⟨⟨a0, a1, a2⟩, -⟩ := cells3 (blk_own hb1 HY.out)
    clear hb1
    go_wp2_with fail
    with_reducible refine (HD.out _ (ht.keep H1.out)).mono ?_
    rintro e w2 ⟨rfl, hb2⟩
    have H2 := hide (H1.out.trans (hb2.mono H1.out.size))
    obtain ⟨⟨c0, c1, c2⟩, f0, f1, f2⟩ := cells3 (blk_own hb2 HX1.out)
    simp only [World.size_alloc] at c0 c1 c2 f0 f1 f2
    clear hb2
    go_wp2_with fail
    all_goals go_tidy
    exact ⟨rfl, .agg #[.int .i64 2, .int .i64 0, .string D], by simp [results, Tryd.results58, go_sem, c0, c1, c2, f0, f1, f2], rfl, ((H2.out.setCell (by simp) _).setCell (by simp) _).setCell (by simp) _⟩
  · rw [show widV ⟨k, n, s⟩ = ⟨k, n, s⟩ from if_neg k1] at hW
    subst hW
    obtain ⟨x1, y1⟩ := i64_neq k1
    clear k1 HN
    go_enter Tryd.func58, Tryd.ntmps58
    go_wp2_with fail
    with_reducible refine (HV.out _).mono ?_
    rintro e w1 ⟨rfl, hb1⟩
    have H1 := hide (HB.out.trans (hb1.mono HB.out.size))
    obtain ⟨⟨c0, c1, c2⟩, f0, f1, f2⟩ := cells3 (blk_own hb1 HX.out)
    simp only [World.size_alloc] at c0 c1 c2 f0 f1 f2
    obtain ⟨⟨a0, a1, a2⟩, -⟩ := cells3 (blk_own hb1 HY.out)
    clear hb1
    go_wp2_with fail
    all_goals go_tidy
    exact ⟨rfl, .agg #[.int .i64 k, .int .i64 n, .string s], by simp [results, Tryd.results58, go_sem, c0, c1, c2, f0, f1, f2], rfl, ((H1.out.setCell (by simp) _).setCell (by simp) _).setCell (by simp) _⟩
end Go.Proofs.YtdijcdadcbhipaaDoor
