/-
  DrawCrashJob, DrawStepJob, DrawValidJob, DrawWorkLeft: five numbers (and an event), whatever the bytes.
-/
import Derived.Test.YtcfacldbmnlmoaaJobDraw
import Derived.Deep.RegionWith
set_option linter.all false
namespace Go.Proofs.Ytcfacldbmnlmoaa
open Go.RowKit
theorem BytesAt.keepAll {w w' : World} {v : Value} (h : BytesAt w v) (hb : Below w.heap.size w w') : BytesAt w' v := by
  obtain ⟨a, len, cap, rfl, h1, h2, h3⟩ := h
  refine ⟨a, len, cap, rfl, h1, h2, ?_⟩
  rcases h3.keep hb (Nat.le_refl _) with h3 | ⟨b, off, e, hlt, hc⟩
  · exact .inl h3
  · exact .inr ⟨b, off, e, Nat.lt_of_lt_of_le hlt hb.size, hc⟩
def DrawJobRet (w : World) (e : Ending) (w' : World) : Prop := ∃ s t d k x : Int, e = .returned (.agg #[.int .i64 s, .int .i64 t, .int .i64 d, .int .i64 k, .int .i64 x]) ∧ Below w.heap.size w w'
theorem drawret_mk {w w' : World} {s t d k x : Int} (h : Below w.heap.size w w') : DrawJobRet w (.returned (.agg #[.int .i64 s, .int .i64 t, .int .i64 d, .int .i64 k, .int .i64 x])) w' := ⟨s, t, d, k, x, rfl, h⟩
theorem below_of_grown {a b c : World} {g : Nat} (h : Below a.heap.size a b) (k : b.grownBy c (some g)) (hg : a.heap.size ≤ g) : Below a.heap.size a c := h.grown k h.size (fun j hj => by injection hj with hj; omega)
set_option maxHeartbeats 1000000 in
set_option maxRecDepth 100000 in
theorem drawCrashJob_any (v : Value) (w : World) (h : BytesAt w v) : Calls Try.prog 23 #[v] w (DrawJobRet w) := by
  have hB := h.keepAll ((Below.refl w.heap.size w).alloc (Nat.le_refl _) (.cells #[.int .i64 0, .int .i64 0, .int .i64 0, .int .i64 0, .int .i64 0] 25))
  go_enter Try.func23, Try.ntmps23
  go_wp2_with fail
  refine (newReader_any _ _ hB).mono ?_
  rintro e w1 ⟨g, rfl, hg, hR, hb1⟩
  have Z1 := hide (blk_own hb1 (blk_alloc w _))
  have R1 := hide hR
  have B1 : Hid (Below w.heap.size w w1) := ((Below.refl _ _).alloc (Nat.le_refl _) _).trans (hb1.mono (by simp))
  simp at hg
  clear hR hb1
  go_wp2_with fail
  refine (anyJob_any g 0 w1 R1.out (by omega)).mono ?_
  rintro e w2 ⟨s, t, d, k, x, p', rfl, -, -, hg2⟩
  have Z2 := hide (blk_by hg2 Z1.out (by omega))
  obtain ⟨⟨y0, y1, y2, y3, y4⟩, o0, o1, o2, o3, o4⟩ := cells5 Z2.out
  have B2 : Hid (Below w.heap.size w w2) := below_of_grown B1.out hg2 (by omega)
  clear hg2
  go_wp2_with fail
  go_tidy
  refine ⟨rfl, ?_⟩
  simp [results, Try.results23, go_sem, y0, y1, y2, y3, y4]
  exact drawret_mk ((((((B2.out.setCell (by simp) _).setCell (by simp) _).setCell (by simp) _).setCell (by simp) _).setCell (by simp) _))
set_option maxHeartbeats 1000000 in
set_option maxRecDepth 100000 in
theorem drawValidJob_any (v : Value) (w : World) (h : BytesAt w v) : Calls Try.prog 25 #[v] w (DrawJobRet w) := by
  have hB := h.keepAll ((Below.refl w.heap.size w).alloc (Nat.le_refl _) (.cells #[.int .i64 0, .int .i64 0, .int .i64 0, .int .i64 0, .int .i64 0] 25))
  go_enter Try.func25, Try.ntmps25
  go_wp2_with fail
  refine (newReader_any _ _ hB).mono ?_
  rintro e w1 ⟨g, rfl, hg, hR, hb1⟩
  have Z1 := hide (blk_own hb1 (blk_alloc w _))
  have R1 := hide hR
  have B1 : Hid (Below w.heap.size w w1) := ((Below.refl _ _).alloc (Nat.le_refl _) _).trans (hb1.mono (by simp))
  simp at hg
  clear hR hb1
  go_wp2_with fail
  refine (anyJob_any g 0 w1 R1.out (by omega)).mono ?_
  rintro e w2 ⟨s, t, d, k, x, p', rfl, -, -, hg2⟩
  have Z2 := hide (blk_by hg2 Z1.out (by omega))
  obtain ⟨⟨y0, y1, y2, y3, y4⟩, o0, o1, o2, o3, o4⟩ := cells5 Z2.out
  have B2 : Hid (Below w.heap.size w w2) := below_of_grown B1.out hg2 (by omega)
  clear hg2
  go_wp2_with fail
  go_tidy
  refine ⟨rfl, ?_⟩
  simp [results, Try.results25, go_sem, y0, y1, y2, y3, y4]
  exact drawret_mk ((((((B2.out.setCell (by simp) _).setCell (by simp) _).setCell (by simp) _).setCell (by simp) _).setCell (by simp) _))
set_option maxHeartbeats 1000000 in
set_option maxRecDepth 100000 in
theorem drawWorkLeft_any (v : Value) (w : World) (h : BytesAt w v) : Calls Try.prog 26 #[v] w (DrawJobRet w) := by
  have hB := h.keepAll ((Below.refl w.heap.size w).alloc (Nat.le_refl _) (.cells #[.int .i64 0, .int .i64 0, .int .i64 0, .int .i64 0, .int .i64 0] 25))
  go_enter Try.func26, Try.ntmps26
  go_wp2_with fail
  refine (newReader_any _ _ hB).mono ?_
  rintro e w1 ⟨g, rfl, hg, hR, hb1⟩
  have Z1 := hide (blk_own hb1 (blk_alloc w _))
  have R1 := hide hR
  have B1 : Hid (Below w.heap.size w w1) := ((Below.refl _ _).alloc (Nat.le_refl _) _).trans (hb1.mono (by simp))
  simp at hg
  clear hR hb1
  go_wp2_with fail
  refine (anyJob_any g 0 w1 R1.out (by omega)).mono ?_
  rintro e w2 ⟨s, t, d, k, x, p', rfl, -, -, hg2⟩
  have Z2 := hide (blk_by hg2 Z1.out (by omega))
  obtain ⟨⟨y0, y1, y2, y3, y4⟩, o0, o1, o2, o3, o4⟩ := cells5 Z2.out
  have B2 : Hid (Below w.heap.size w w2) := below_of_grown B1.out hg2 (by omega)
  clear hg2
  go_wp2_with fail
  go_tidy
  refine ⟨rfl, ?_⟩
  simp [results, Try.results26, go_sem, y0, y1, y2, y3, y4]
  exact drawret_mk ((((((B2.out.setCell (by simp) _).setCell (by simp) _).setCell (by simp) _).setCell (by simp) _).setCell (by simp) _))
def DrawStepRet (w : World) (e : Ending) (w' : World) : Prop := ∃ s t d k x ev : Int, e = .returned (.tuple #[.agg #[.int .i64 s, .int .i64 t, .int .i64 d, .int .i64 k, .int .i64 x], .int .i64 ev]) ∧ Below w.heap.size w w'
theorem drawstep_mk {w w' : World} {s t d k x ev : Int} (h : Below w.heap.size w w') : DrawStepRet w (.returned (.tuple #[.agg #[.int .i64 s, .int .i64 t, .int .i64 d, .int .i64 k, .int .i64 x], .int .i64 ev])) w' := ⟨s, t, d, k, x, ev, rfl, h⟩
set_option maxHeartbeats 2000000 in
set_option maxRecDepth 100000 in
theorem drawStepJob_any (v : Value) (w : World) (h : BytesAt w v) :
    Calls Try.prog 24 #[v] w (DrawStepRet w) := by
  have hB := h.keepAll ((Below.refl w.heap.size w).alloc (Nat.le_refl _) (.cells #[.int .i64 0, .int .i64 0, .int .i64 0, .int .i64 0, .int .i64 0] 25))
  go_enter Try.func24, Try.ntmps24
  go_wp2_with fail
  refine (newReader_any _ _ hB).mono ?_
  rintro e w1 ⟨g, rfl, hg, hR, hb1⟩
  have Z1 := hide (blk_own hb1 (blk_alloc w _))
  have R1 := hide hR
  have B1 : Hid (Below w.heap.size w w1) := ((Below.refl _ _).alloc (Nat.le_refl _) _).trans (hb1.mono (by simp))
  have hg1 : g < w1.heap.size := hR.lt
  simp at hg
  clear hR hb1
  go_wp2_with fail
  refine (anyJob_any g 0 w1 R1.out (by omega)).mono ?_
  rintro e w2 ⟨s, t, d, k, x, p', rfl, hR2, hp', hg2⟩
  have Z2 := hide (blk_by hg2 Z1.out (by omega))
  have B2 : Hid (Below w.heap.size w w2) := below_of_grown B1.out hg2 (by omega)
  have R2 := hide hR2
  have hs2 : w.heap.size < w2.heap.size := lt_block Z2.out
  have hgs : g < w2.heap.size := hR2.lt
  have hne : w2.heap.size ≠ g := by omega
  have hne' : w.heap.size ≠ g := by omega
  clear hg2 hR2
  go_wp2_with fail
  have J2 := hide (blk_alloc w2 (.cells #[.int .i64 s, .int .i64 t, .int .i64 d, .int .i64 k, .int .i64 x] 25))
  go_region_with (go_at_call 31; refine (pick_any g p' 8 _ (R2.out.alloc _).drew (by omega)).mono ?_; rintro e w3 ⟨r, rfl, -, -, hg3⟩; have Z3 := hide (blk_by hg3 (blk_drew (blk_keep Z2.out _)) hne'); have J3 := hide (blk_by hg3 (blk_drew J2.out) hne); have B3 : Hid (Below w.heap.size w w3) := below_of_grown ((B2.out.alloc B2.out.size _).drew) hg3 (by omega); clear hg3; obtain ⟨⟨y0, y1, y2, y3, y4⟩, o0, o1, o2, o3, o4⟩ := cells5 Z3.out; obtain ⟨⟨l0, l1, l2, l3, l4⟩, -⟩ := cells5 J3.out)
  all_goals
    go_wp2_with fail
    go_tidy
    refine ⟨rfl, ?_⟩
    simp [results, Try.results24, go_sem, y0, y1, y2, y3, y4]
    exact drawstep_mk ((((((B3.out.setCell (by simp) _).setCell (by simp) _).setCell (by simp) _).setCell (by simp) _).setCell (by simp) _))
end Go.Proofs.Ytcfacldbmnlmoaa
