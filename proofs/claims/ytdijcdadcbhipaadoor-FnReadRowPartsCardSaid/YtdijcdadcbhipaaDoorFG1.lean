/-
  The generators of values and columns.
-/
import Derived.Test.YtdijcdadcbhipaaDoorFSw
import Derived.Test.YtdijcdadcbhipaaDoorReader
import Derived.Deep.LoopGhost
set_option linter.all false
namespace Go.Proofs.YtdijcdadcbhipaaDoor
open Go.RowKit
theorem Rd.drew {w : World} {g : Nat} {p : Int} (h : Rd w g p) : Rd w.drew g p := h
theorem grown_drew {a b : World} {row : Option Nat} (h : a.grownBy b row) : a.grownBy b.drew row := ⟨h.os, h.tape, h.output, h.size, h.block⟩
theorem blk_other {w : World} {b b' o : Nat} {v : Value} {x : Obj} (h : w.heap[b]? = some x) (hne : b ≠ b') : (w.setCell ⟨b', o, none⟩ v).heap[b]? = some x := (Below.heap_setCell w ⟨b', o, none⟩ v b hne).trans h
theorem grown_setNew {a b : World} {row : Option Nat} {B o : Nat} {v : Value} (h : a.grownBy b row) (hB : a.heap.size ≤ B) : a.grownBy (b.setCell ⟨B, o, none⟩ v) row :=
  ⟨h.os, h.tape, h.output, by simpa [World.setCell] using h.size, fun i hi hn => (Below.heap_setCell b ⟨B, o, none⟩ v i (by simp; omega)).trans (h.block i hi hn)⟩
theorem Rd.setCell {w : World} {g B o : Nat} {p : Int} {v : Value} (h : Rd w g p) (hB : g < B) : Rd (w.setCell ⟨B, o, none⟩ v) g p := h.keepBy (grown_setCell _ _ _ _) hB
theorem blk_set3 {w : World} {b : Nat} {t : TypeId} {a0 a1 a2 c0 c1 c2 : Value} (h : w.heap[b]? = some (.cells #[a0, a1, a2] t (0, 0))) :
    (((w.setCell ⟨b, 0, none⟩ c0).setCell ⟨b, 1, none⟩ c1).setCell ⟨b, 2, none⟩ c2).heap[b]? = some (.cells #[c0, c1, c2] t (0, 0)) := by
  rw [set_block (set_block (set_block h _ _) _ _) _ _]; rfl
/-- a slice of texts that the caller has made: 'of' returns one of them -/
def TextRow (w : World) (b : Nat) (xs : List ByteArray) : Prop := b < w.heap.size ∧ ∀ i (h : i < xs.length), w.cell? ⟨b, i, none⟩ = some (.string xs[i])
def OfPost (w : World) (g : Nat) (p : Int) (xs : List ByteArray) (e : Ending) (w' : World) : Prop := ∃ r, e = .returned (.string r) ∧ r ∈ xs ∧ Rd w' g (p + 1) ∧ w.grownBy w' (some g)
theorem textrow {w : World} {b : Nat} {t : TypeId} {f : Nat × Nat} {xs : List ByteArray} (h : w.heap[b]? = some (.cells (xs.map Value.string).toArray t f)) : TextRow w b xs :=
  ⟨lt_block h, fun i hi => by rw [cell_block h]; simp [hi]⟩
set_option maxHeartbeats 1000000 in
theorem of_lit (g : Nat) (p : Int) (b cap : Nat) (t : TypeId) (xs : List ByteArray) (w : World) (h : Rd w g p) (hp : p < 1000000000) (hb : w.heap[b]? = some (.cells (xs.map Value.string).toArray t (0, 0))) (hbg : b ≠ g) (hxs : 0 < xs.length) (hxl : xs.length < 1000) :
    Calls Tryd.prog 102 #[.pointer (some ⟨g, 0, none⟩), .slice (some ⟨b, 0, none⟩) xs.length cap] w (OfPost w g p xs) := by
  obtain ⟨hb, hc⟩ := textrow hb
  go_enter Tryd.func102, Tryd.ntmps102
  go_wp2_with fail
  refine (pick_any g p xs.length w h hp).mono ?_
  rintro e w1 ⟨r, rfl, hr, hR, hgr⟩
  obtain ⟨i, rfl⟩ : ∃ i : Nat, r = (i : Int) := ⟨r.toNat, by have := hr.1; omega⟩
  have hi : i < xs.length := by have := hr.2 (by omega); omega
  have hci : w1.cell? ⟨b, i, none⟩ = some (.string xs[i]) := by
    rw [World.cell?_of_block (a := ⟨b, i, none⟩) (hgr.block b hb (fun e => hbg (by injection e)))]; exact hc i hi
  have hm : Hid (xs[i] ∈ xs) := List.getElem_mem hi
  have HR := hide hR
  have HG := hide hgr
  clear hc hR hgr
  generalize xs[i] = y at *
  go_wp2
  go_ret
  exact ⟨y, rfl, hm.out, HR.out, HG.out⟩
theorem grown_new {a b c : World} {row : Option Nat} {j : Nat} (h : a.grownBy b row) (k : b.grownBy c (some j)) (hj : a.heap.size ≤ j) : a.grownBy c row :=
  ⟨k.os.trans h.os, k.tape.trans h.tape, k.output.trans h.output, Nat.le_trans h.size k.size, fun i hi hn => (k.block i (Nat.lt_of_lt_of_le hi h.size) (fun e => by injection e with e; omega)).trans (h.block i hi hn)⟩
/-- what a generator gives as a value -/
def genV (v : RVal) : Prop := v.s.size ≤ 100 ∧ -1000000 ≤ v.n ∧ v.n ≤ 1000000
theorem genV_good {v : RVal} (h : genV v) : goodV v := ⟨by unfold okV; have := h.1; omega, by unfold numV; have := h.2; omega⟩
def VPost (w : World) (g : Nat) (p : Int) (K : Int) (e : Ending) (w' : World) : Prop := ∃ (v : RVal) (q : Int), e = .returned (.agg #[.int .i64 v.k, .int .i64 v.n, .string v.s]) ∧ genV v ∧ Rd w' g q ∧ (p ≤ q ∧ q ≤ p + K) ∧ w.grownBy w' (some g)
theorem texts_small : ∀ s ∈ ([⟨#[]⟩, ⟨#[97]⟩, ⟨#[97, 98]⟩, ⟨#[98]⟩, ⟨#[49, 50]⟩, ⟨#[45, 55]⟩, ⟨#[126, 126]⟩, ⟨#[97, 32, 98]⟩, ⟨#[97, 98, 99, 100, 101, 102, 103, 104, 105, 106, 107, 108]⟩, ⟨#[32]⟩] : List ByteArray), s.size ≤ 100 := by decide
set_option maxHeartbeats 8000000 in
set_option maxRecDepth 100000 in
theorem randomValue_any (g : Nat) (p k : Int) (w : World) (h : Rd w g p) (hp : p < 900000000) (hp0 : 0 ≤ p) :
    Calls Tryd.prog 101 #[.pointer (some ⟨g, 0, none⟩), .int .i64 k] w (VPost w g p 4) := by
  have R0 := hide (h.alloc (.cells #[.int .i64 0, .int .i64 0, .string ⟨#[]⟩] 25))
  have hg : g < w.heap.size := h.lt
  have B0 := hide (blk_alloc w (.cells #[.int .i64 0, .int .i64 0, .string ⟨#[]⟩] 25))
  have G0 : Hid (w.grownBy (w.alloc (.cells #[.int .i64 0, .int .i64 0, .string ⟨#[]⟩] 25)) (some g)) := grown_alloc (World.grownBy.refl _ _) _
  clear h
  by_cases hk : k < 0
  · go_enter Tryd.func101, Tryd.ntmps101
    go_wp2_with fail
    refine (pick_any g p 3 _ R0.out (by omega)).mono ?_
    rintro e w1 ⟨r0, rfl, -, hR1, hg1⟩
    have R1 := hide hR1
    have G1 : Hid (w.grownBy w1 (some g)) := grown_trans G0.out hg1
    have B1 := hide (blk_by hg1 B0.out (by omega))
    clear hR1 hg1 R0 B0 G0
    go_wp2_with fail
    refine (pick_any g (p + 1) 8 _ R1.out (by omega)).mono ?_
    rintro e w2 ⟨t, rfl, -, hR2, hg2⟩
    have R2 := hide hR2
    have G2 : Hid (w.grownBy w2 (some g)) := grown_trans G1.out hg2
    have B2 := hide (blk_by hg2 B1.out (by omega))
    clear hR2 hg2
    by_cases ht : t = 0
    · subst ht
      obtain ⟨⟨b0, b1, b2⟩, n0, n1, n2⟩ := cells3 B2.out
      go_wp2_with fail
      all_goals go_tidy
      exact ⟨rfl, .agg #[.int .i64 0, .int .i64 0, .string ⟨#[]⟩], by simp [results, Tryd.results101, go_sem, b0, b1, b2, n0, n1, n2], ⟨0, 0, ⟨#[]⟩⟩, _, rfl, ⟨by decide, by decide, by decide⟩, (Rd.setCell (Rd.setCell (Rd.setCell R2.out (by omega)) (by omega)) (by omega)), by omega, (grown_setNew (grown_setNew (grown_setNew G2.out (by simp)) (by simp)) (by simp))⟩
    · have ht0 : (t == 0) = false := by simp [ht]
      by_cases k1 : r0 = 1
      · subst k1
        go_wp2_with fail
        refine (pick_any g (p + 1 + 1) 250 _ R2.out (by omega)).mono ?_
        rintro e w3 ⟨r, rfl, ⟨hr0, hr1⟩, hR3, hg3⟩
        have hr2 := hr1 (by omega)
        have hwr : IntKind.i64.wrap (r * 777) = r * 777 := by rw [IntKind.wrap_i64]; omega
        have R3 := hide hR3
        have G3 : Hid (w.grownBy w3 (some g)) := grown_trans G2.out hg3
        have B3 := hide (blk_by hg3 B2.out (by omega))
        have S3 := hide hg3.size
        clear hR3 hg3 hr1
        go_wp2_with fail
        refine (one_lit g ((p + 1 + 1) + 1) _ 11 _ [0, 1, 7, -7, 79, 80, 4000, 200000, 999999, -999999, r * 777] _ (R3.out.alloc _) (by omega) (blk_alloc _ _) (by have := R3.out.lt; omega) (by simp) (by simp)).mono ?_
        rintro e w4 ⟨x, rfl, hx, hR4, hg4⟩
        have hxb : -1000000 ≤ x ∧ x ≤ 1000000 := by simp at hx; omega
        have R4 := hide hR4
        have G4 : Hid (w.grownBy w4 (some g)) := grown_trans (grown_alloc G3.out _) hg4
        have B4 := hide (blk_by hg4 (blk_keep B3.out _) (by omega))
        obtain ⟨⟨b0, b1, b2⟩, n0, n1, n2⟩ := cells3 B4.out
        clear hR4 hg4 hx
        go_wp2_with fail
        all_goals go_tidy
        exact ⟨rfl, .agg #[.int .i64 1, .int .i64 x, .string ⟨#[]⟩], by simp [results, Tryd.results101, go_sem, b0, b1, b2, n0, n1, n2], ⟨1, x, ⟨#[]⟩⟩, _, rfl, ⟨(by show (0 : Nat) ≤ 100; omega), hxb⟩, (Rd.setCell (Rd.setCell (Rd.setCell R4.out (by omega)) (by omega)) (by omega)), by omega, (grown_setNew (grown_setNew (grown_setNew G4.out (by simp)) (by simp)) (by simp))⟩
      · obtain ⟨x1, y1⟩ := i64_neq k1
        by_cases k2 : r0 = 2
        · subst k2
          go_wp2_with fail
          refine (of_lit g (p + 1 + 1) _ 10 _ [⟨#[]⟩, ⟨#[97]⟩, ⟨#[97, 98]⟩, ⟨#[98]⟩, ⟨#[49, 50]⟩, ⟨#[45, 55]⟩, ⟨#[126, 126]⟩, ⟨#[97, 32, 98]⟩, ⟨#[97, 98, 99, 100, 101, 102, 103, 104, 105, 106, 107, 108]⟩, ⟨#[32]⟩] _ (R2.out.alloc _) (by omega) (blk_alloc _ _) (by have := R2.out.lt; omega) (by decide) (by decide)).mono ?_
          rintro e w4 ⟨x, rfl, hx, hR4, hg4⟩
          have hxb := texts_small _ hx
          have R4 := hide hR4
          have G4 : Hid (w.grownBy w4 (some g)) := grown_trans (grown_alloc G2.out _) hg4
          have B4 := hide (blk_by hg4 (blk_keep B2.out _) (by omega))
          obtain ⟨⟨b0, b1, b2⟩, n0, n1, n2⟩ := cells3 B4.out
          clear hR4 hg4 hx
          go_wp2_with fail
          all_goals go_tidy
          exact ⟨rfl, .agg #[.int .i64 2, .int .i64 0, .string x], by simp [results, Tryd.results101, go_sem, b0, b1, b2, n0, n1, n2], ⟨2, 0, x⟩, _, rfl, ⟨hxb, (by simp), (by simp)⟩, (Rd.setCell (Rd.setCell (Rd.setCell R4.out (by omega)) (by omega)) (by omega)), by omega, (grown_setNew (grown_setNew (grown_setNew G4.out (by simp)) (by simp)) (by simp))⟩
        · obtain ⟨x2, y2⟩ := i64_neq k2
          obtain ⟨⟨b0, b1, b2⟩, n0, n1, n2⟩ := cells3 B2.out
          go_wp2_with fail
          all_goals go_tidy
          exact ⟨rfl, .agg #[.int .i64 0, .int .i64 0, .string ⟨#[]⟩], by simp [results, Tryd.results101, go_sem, b0, b1, b2, n0, n1, n2], ⟨0, 0, ⟨#[]⟩⟩, _, rfl, ⟨by decide, by decide, by decide⟩, (Rd.setCell (Rd.setCell (Rd.setCell R2.out (by omega)) (by omega)) (by omega)), by omega, (grown_setNew (grown_setNew (grown_setNew G2.out (by simp)) (by simp)) (by simp))⟩
  · go_enter Tryd.func101, Tryd.ntmps101
    go_wp2_with fail
    refine (pick_any g p 8 _ R0.out (by omega)).mono ?_
    rintro e w2 ⟨t, rfl, -, hR2, hg2⟩
    have R2 := hide hR2
    have G2 : Hid (w.grownBy w2 (some g)) := grown_trans G0.out hg2
    have B2 := hide (blk_by hg2 B0.out (by omega))
    clear hR2 hg2
    by_cases ht : t = 0
    · subst ht
      obtain ⟨⟨b0, b1, b2⟩, n0, n1, n2⟩ := cells3 B2.out
      go_wp2_with fail
      all_goals go_tidy
      exact ⟨rfl, .agg #[.int .i64 0, .int .i64 0, .string ⟨#[]⟩], by simp [results, Tryd.results101, go_sem, b0, b1, b2, n0, n1, n2], ⟨0, 0, ⟨#[]⟩⟩, _, rfl, ⟨by decide, by decide, by decide⟩, (Rd.setCell (Rd.setCell (Rd.setCell R2.out (by omega)) (by omega)) (by omega)), by omega, (grown_setNew (grown_setNew (grown_setNew G2.out (by simp)) (by simp)) (by simp))⟩
    · have ht0 : (t == 0) = false := by simp [ht]
      by_cases k1 : k = 1
      · subst k1
        go_wp2_with fail
        refine (pick_any g (p + 1) 250 _ R2.out (by omega)).mono ?_
        rintro e w3 ⟨r, rfl, ⟨hr0, hr1⟩, hR3, hg3⟩
        have hr2 := hr1 (by omega)
        have hwr : IntKind.i64.wrap (r * 777) = r * 777 := by rw [IntKind.wrap_i64]; omega
        have R3 := hide hR3
        have G3 : Hid (w.grownBy w3 (some g)) := grown_trans G2.out hg3
        have B3 := hide (blk_by hg3 B2.out (by omega))
        have S3 := hide hg3.size
        clear hR3 hg3 hr1
        go_wp2_with fail
        refine (one_lit g ((p + 1) + 1) _ 11 _ [0, 1, 7, -7, 79, 80, 4000, 200000, 999999, -999999, r * 777] _ (R3.out.alloc _) (by omega) (blk_alloc _ _) (by have := R3.out.lt; omega) (by simp) (by simp)).mono ?_
        rintro e w4 ⟨x, rfl, hx, hR4, hg4⟩
        have hxb : -1000000 ≤ x ∧ x ≤ 1000000 := by simp at hx; omega
        have R4 := hide hR4
        have G4 : Hid (w.grownBy w4 (some g)) := grown_trans (grown_alloc G3.out _) hg4
        have B4 := hide (blk_by hg4 (blk_keep B3.out _) (by omega))
        obtain ⟨⟨b0, b1, b2⟩, n0, n1, n2⟩ := cells3 B4.out
        clear hR4 hg4 hx
        go_wp2_with fail
        all_goals go_tidy
        exact ⟨rfl, .agg #[.int .i64 1, .int .i64 x, .string ⟨#[]⟩], by simp [results, Tryd.results101, go_sem, b0, b1, b2, n0, n1, n2], ⟨1, x, ⟨#[]⟩⟩, _, rfl, ⟨(by show (0 : Nat) ≤ 100; omega), hxb⟩, (Rd.setCell (Rd.setCell (Rd.setCell R4.out (by omega)) (by omega)) (by omega)), by omega, (grown_setNew (grown_setNew (grown_setNew G4.out (by simp)) (by simp)) (by simp))⟩
      · obtain ⟨x1, y1⟩ := i64_neq k1
        by_cases k2 : k = 2
        · subst k2
          go_wp2_with fail
          refine (of_lit g (p + 1) _ 10 _ [⟨#[]⟩, ⟨#[97]⟩, ⟨#[97, 98]⟩, ⟨#[98]⟩, ⟨#[49, 50]⟩, ⟨#[45, 55]⟩, ⟨#[126, 126]⟩, ⟨#[97, 32, 98]⟩, ⟨#[97, 98, 99, 100, 101, 102, 103, 104, 105, 106, 107, 108]⟩, ⟨#[32]⟩] _ (R2.out.alloc _) (by omega) (blk_alloc _ _) (by have := R2.out.lt; omega) (by decide) (by decide)).mono ?_
          rintro e w4 ⟨x, rfl, hx, hR4, hg4⟩
          have hxb := texts_small _ hx
          have R4 := hide hR4
          have G4 : Hid (w.grownBy w4 (some g)) := grown_trans (grown_alloc G2.out _) hg4
          have B4 := hide (blk_by hg4 (blk_keep B2.out _) (by omega))
          obtain ⟨⟨b0, b1, b2⟩, n0, n1, n2⟩ := cells3 B4.out
          clear hR4 hg4 hx
          go_wp2_with fail
          all_goals go_tidy
          exact ⟨rfl, .agg #[.int .i64 2, .int .i64 0, .string x], by simp [results, Tryd.results101, go_sem, b0, b1, b2, n0, n1, n2], ⟨2, 0, x⟩, _, rfl, ⟨hxb, (by simp), (by simp)⟩, (Rd.setCell (Rd.setCell (Rd.setCell R4.out (by omega)) (by omega)) (by omega)), by omega, (grown_setNew (grown_setNew (grown_setNew G4.out (by simp)) (by simp)) (by simp))⟩
        · obtain ⟨x2, y2⟩ := i64_neq k2
          obtain ⟨⟨b0, b1, b2⟩, n0, n1, n2⟩ := cells3 B2.out
          go_wp2_with fail
          all_goals go_tidy
          exact ⟨rfl, .agg #[.int .i64 0, .int .i64 0, .string ⟨#[]⟩], by simp [results, Tryd.results101, go_sem, b0, b1, b2, n0, n1, n2], ⟨0, 0, ⟨#[]⟩⟩, _, rfl, ⟨by decide, by decide, by decide⟩, (Rd.setCell (Rd.setCell (Rd.setCell R2.out (by omega)) (by omega)) (by omega)), by omega, (grown_setNew (grown_setNew (grown_setNew G2.out (by simp)) (by simp)) (by simp))⟩
end Go.Proofs.YtdijcdadcbhipaaDoor
