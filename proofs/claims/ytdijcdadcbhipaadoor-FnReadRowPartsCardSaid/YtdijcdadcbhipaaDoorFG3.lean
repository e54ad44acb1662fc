/-
  The generators of any value, any format and any change.
-/
import Derived.Test.YtdijcdadcbhipaaDoorFG2
import Derived.Test.YtdijcdadcbhipaaDoorFSf
set_option linter.all false
namespace Go.Proofs.YtdijcdadcbhipaaDoor
open Go.RowKit
theorem texts_small2 : ∀ s ∈ ([⟨#[97, 98, 99, 100, 101, 102, 103, 104, 105, 106, 107, 108, 109]⟩, ⟨#[10]⟩, ⟨#[120]⟩] : List ByteArray), s.size ≤ 100 := by decide
theorem blk_set3' {w : World} {b : Nat} {t : TypeId} {a0 a1 a2 c0 c1 c2 : Value} (h : w.heap[b]? = some (.cells #[a0, a1, a2] t (0, 0))) :
    (w.setCell ⟨b, 0, none⟩ c0).heap[b]? = some (.cells #[c0, a1, a2] t (0, 0)) ∧ (w.setCell ⟨b, 1, none⟩ c1).heap[b]? = some (.cells #[a0, c1, a2] t (0, 0)) ∧ (w.setCell ⟨b, 2, none⟩ c2).heap[b]? = some (.cells #[a0, a1, c2] t (0, 0)) := by
  refine ⟨?_, ?_, ?_⟩ <;> (rw [set_block h]; rfl)
set_option maxHeartbeats 8000000 in
set_option maxRecDepth 100000 in
theorem anyValue_any (g : Nat) (p : Int) (w : World) (h : Rd w g p) (hp : p < 800000000) (hp0 : 0 ≤ p) :
    Calls Tryd.prog 86 #[.pointer (some ⟨g, 0, none⟩)] w (VPost w g p 6) := by
  have R0 := hide (h.alloc (.cells #[.int .i64 0, .int .i64 0, .string ⟨#[]⟩] 25))
  have hg : g < w.heap.size := h.lt
  have B0 := hide (blk_alloc w (.cells #[.int .i64 0, .int .i64 0, .string ⟨#[]⟩] 25))
  have G0 : Hid (w.grownBy (w.alloc (.cells #[.int .i64 0, .int .i64 0, .string ⟨#[]⟩] 25)) (some g)) := grown_alloc (World.grownBy.refl _ _) _
  clear h
  go_enter Tryd.func86, Tryd.ntmps86
  go_wp2_with fail
  with_reducible refine (randomValue_any g p (-1) _ R0.out (by omega) (by omega)).mono ?_
  rintro e w1 ⟨x, q, rfl, hgv, hR1, hq, hg1⟩
  have R1 := hide (hR1.alloc (.cells #[.int .i64 x.k, .int .i64 x.n, .string x.s] 25))
  have G1 : Hid (w.grownBy (w1.alloc (.cells #[.int .i64 x.k, .int .i64 x.n, .string x.s] 25)) (some g)) := grown_alloc (grown_trans G0.out hg1) _
  have B1 := hide (blk_keep (blk_by hg1 B0.out (by omega)) (.cells #[.int .i64 x.k, .int .i64 x.n, .string x.s] 25))
  have X1 := hide (blk_alloc w1 (.cells #[.int .i64 x.k, .int .i64 x.n, .string x.s] 25))
  have hw1 : w.heap.size < w1.heap.size := by have := hg1.size; simp at this; omega
  have HG := hide hgv
  clear hR1 hg1 R0 B0 G0 hgv
  go_wp2_with fail
  with_reducible refine (pick_any g q 24 _ R1.out (by omega)).mono ?_
  rintro e w2 ⟨t, rfl, -, hR2, hg2⟩
  have R2 := hide hR2
  have G2 : Hid (w.grownBy w2 (some g)) := grown_trans G1.out hg2
  have B2 := hide (blk_by hg2 B1.out (by omega))
  have X2 := hide (blk_by hg2 X1.out (by omega))
  clear hR2 hg2 R1 B1 G1 X1
  by_cases t0 : t = 0
  · subst t0
    go_wp2_with fail
    refine (one_lit g (q + 1) _ 3 _ [1000000, -1000000, 5] _ (R2.out.alloc _) (by omega) (blk_alloc _ _) (by have := R2.out.lt; omega) (by decide) (by decide)).mono ?_
    rintro e w3 ⟨y, rfl, hy, hR3, hg3⟩
    have hyb : -1000000 ≤ y ∧ y ≤ 1000000 := by simp at hy; omega
    have R3 := hide hR3
    have G3 : Hid (w.grownBy w3 (some g)) := grown_trans (grown_alloc G2.out _) hg3
    have B3 := hide (blk_by hg3 (blk_keep B2.out _) (by omega))
    have X3 := hide (blk_by hg3 (blk_keep X2.out _) (by omega))
    clear hR3 hg3 hy
    obtain ⟨⟨b0, b1, b2⟩, n0, n1, n2⟩ := cells3 B3.out
    obtain ⟨⟨a0, a1, a2⟩, m0, m1, m2⟩ := cells3 X3.out
    go_wp2_with fail
    all_goals go_tidy
    exact ⟨rfl, .agg #[.int .i64 x.k, .int .i64 y, .string x.s], by simp [results, Tryd.results86, go_sem, b0, b1, b2, n0, n1, n2, a0, a1, a2, m0, m1, m2], ⟨x.k, y, x.s⟩, (q + 1 + 1), rfl, ⟨HG.out.1, hyb⟩, (Rd.setCell (Rd.setCell (Rd.setCell (Rd.setCell R3.out (by omega)) (by omega)) (by omega)) (by omega)), by omega, (grown_setNew (grown_setNew (grown_setNew (grown_setNew G3.out (by omega)) (by omega)) (by omega)) (by omega))⟩
  obtain ⟨d0, d0'⟩ := i64_neq t0
  by_cases t1 : t = 1
  · subst t1
    go_wp2_with fail
    refine (of_lit g (q + 1) _ 3 _ [⟨#[97, 98, 99, 100, 101, 102, 103, 104, 105, 106, 107, 108, 109]⟩, ⟨#[10]⟩, ⟨#[120]⟩] _ (R2.out.alloc _) (by omega) (blk_alloc _ _) (by have := R2.out.lt; omega) (by decide) (by decide)).mono ?_
    rintro e w3 ⟨y, rfl, hy, hR3, hg3⟩
    have hyb := texts_small2 _ hy
    have R3 := hide hR3
    have G3 : Hid (w.grownBy w3 (some g)) := grown_trans (grown_alloc G2.out _) hg3
    have B3 := hide (blk_by hg3 (blk_keep B2.out _) (by omega))
    have X3 := hide (blk_by hg3 (blk_keep X2.out _) (by omega))
    clear hR3 hg3 hy
    obtain ⟨⟨b0, b1, b2⟩, n0, n1, n2⟩ := cells3 B3.out
    obtain ⟨⟨a0, a1, a2⟩, m0, m1, m2⟩ := cells3 X3.out
    go_wp2_with fail
    all_goals go_tidy
    exact ⟨rfl, .agg #[.int .i64 x.k, .int .i64 x.n, .string y], by simp [results, Tryd.results86, go_sem, b0, b1, b2, n0, n1, n2, a0, a1, a2, m0, m1, m2], ⟨x.k, x.n, y⟩, (q + 1 + 1), rfl, ⟨hyb, HG.out.2⟩, (Rd.setCell (Rd.setCell (Rd.setCell (Rd.setCell R3.out (by omega)) (by omega)) (by omega)) (by omega)), by omega, (grown_setNew (grown_setNew (grown_setNew (grown_setNew G3.out (by omega)) (by omega)) (by omega)) (by omega))⟩
  obtain ⟨d1, d1'⟩ := i64_neq t1
  by_cases t2 : t = 2
  · subst t2
    go_wp2_with fail
    refine (one_lit g (q + 1) _ 3 _ [-1, 3, 0] _ (R2.out.alloc _) (by omega) (blk_alloc _ _) (by have := R2.out.lt; omega) (by decide) (by decide)).mono ?_
    rintro e w3 ⟨y, rfl, hy, hR3, hg3⟩
    have hyb : -1000000 ≤ y ∧ y ≤ 1000000 := by simp at hy; omega
    have R3 := hide hR3
    have G3 : Hid (w.grownBy w3 (some g)) := grown_trans (grown_alloc G2.out _) hg3
    have B3 := hide (blk_by hg3 (blk_keep B2.out _) (by omega))
    have X3 := hide (blk_by hg3 (blk_keep X2.out _) (by omega))
    clear hR3 hg3 hy
    obtain ⟨⟨b0, b1, b2⟩, n0, n1, n2⟩ := cells3 B3.out
    obtain ⟨⟨a0, a1, a2⟩, m0, m1, m2⟩ := cells3 X3.out
    go_wp2_with fail
    all_goals go_tidy
    exact ⟨rfl, .agg #[.int .i64 y, .int .i64 x.n, .string x.s], by simp [results, Tryd.results86, go_sem, b0, b1, b2, n0, n1, n2, a0, a1, a2, m0, m1, m2], ⟨y, x.n, x.s⟩, (q + 1 + 1), rfl, HG.out, (Rd.setCell (Rd.setCell (Rd.setCell (Rd.setCell R3.out (by omega)) (by omega)) (by omega)) (by omega)), by omega, (grown_setNew (grown_setNew (grown_setNew (grown_setNew G3.out (by omega)) (by omega)) (by omega)) (by omega))⟩
  obtain ⟨d2, d2'⟩ := i64_neq t2
  obtain ⟨⟨b0, b1, b2⟩, n0, n1, n2⟩ := cells3 B2.out
  obtain ⟨⟨a0, a1, a2⟩, m0, m1, m2⟩ := cells3 X2.out
  go_wp2_with fail
  all_goals go_tidy
  exact ⟨rfl, .agg #[.int .i64 x.k, .int .i64 x.n, .string x.s], by simp [results, Tryd.results86, go_sem, b0, b1, b2, n0, n1, n2, a0, a1, a2, m0, m1, m2], x, (q + 1), rfl, HG.out, (Rd.setCell (Rd.setCell (Rd.setCell R2.out (by omega)) (by omega)) (by omega)), by omega, (grown_setNew (grown_setNew (grown_setNew G2.out (by omega)) (by omega)) (by omega))⟩
end Go.Proofs.YtdijcdadcbhipaaDoor
