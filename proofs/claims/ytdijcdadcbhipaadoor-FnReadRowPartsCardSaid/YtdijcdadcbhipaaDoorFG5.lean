/-
  The generator of a change.
-/
import Derived.Test.YtdijcdadcbhipaaDoorFG4
set_option linter.all false
namespace Go.Proofs.YtdijcdadcbhipaaDoor
open Go.RowKit
theorem OwnR.prefix {α : Type} {enc : α → List Value} {k : Nat} (he : ∀ x, (enc x).length = k) {e : TypeId} {B : Nat} {w : World} {g n c : Nat} {l : List α} (h : OwnR enc k e B w (.slice (some ⟨g, 0, none⟩) n c) l) (m : Nat) (hm : m ≤ l.length) : OwnR enc k e B w (.slice (some ⟨g, 0, none⟩) m c) (l.take m) := by
  have hn : n = l.length := by
    rcases h.2 with ⟨e, _⟩ | ⟨g', cap', cur, e, _⟩
    · cases e
    · injection e
  subst hn
  obtain ⟨cur, hgb, hs, hcm, hnc, hB, hxl, hx⟩ := own_at h
  have hlt : (l.take m).length = m := by rw [List.length_take]; omega
  have hmk : m * k ≤ l.length * k := Nat.mul_le_mul_right _ hm
  unfold OwnR
  rw [hlt]
  refine own_of hB hgb hs hcm (by omega) (by rw [flat_len he, hlt]) fun j hj => ?_
  rw [flat_take he l m hm] at hj ⊢
  rw [List.length_take] at hj
  rw [List.getElem?_take, if_pos (by omega)]
  exact hx j (by omega)
theorem genV_goodC {f : List RCol} (h : ∀ x ∈ f, genV x.d) : ∀ x ∈ f, goodC x := fun x hx => genV_good (h x hx)
theorem genV_okC {c : RCol} (h : genV c.d) : okC c := by unfold okC okV; have := h.1; omega
def HPost (w : World) (g : Nat) (p : Int) (K : Int) (e : Ending) (w' : World) : Prop := ∃ (c : RChg) (q : Int), e = .returned (.agg #[.int .i64 c.k, .int .i64 c.a, .int .i64 c.c.k, .int .i64 c.c.d.k, .int .i64 c.c.d.n, .string c.c.d.s]) ∧ genV c.c.d ∧ Rd w' g q ∧ (p ≤ q ∧ q ≤ p + K) ∧ w.grownBy w' (some g)
set_option maxHeartbeats 16000000 in
set_option maxRecDepth 100000 in
theorem randomChange_any (g : Nat) (p : Int) (B : Nat) (v : Value) (f : List RCol) (w : World) (h : Rd w g p) (hp : p < 500000000) (hp0 : 0 ≤ p) (ho : OwnC B w v f) (hgB : g < B) (hgf : ∀ x ∈ f, genV x.d) (hf1 : 1 ≤ f.length) (hf5 : f.length ≤ 1000) :
    Calls Tryd.prog 88 #[.pointer (some ⟨g, 0, none⟩), v] w (HPost w g p 60) := by
  have R0 := hide (h.alloc (.cells #[.int .i64 0, .int .i64 0, .int .i64 0, .int .i64 0, .int .i64 0, .string ⟨#[]⟩] 29))
  have hg : g < w.heap.size := h.lt
  have B0 := hide (blk_alloc w (.cells #[.int .i64 0, .int .i64 0, .int .i64 0, .int .i64 0, .int .i64 0, .string ⟨#[]⟩] 29))
  have G0 : Hid (w.grownBy (w.alloc (.cells #[.int .i64 0, .int .i64 0, .int .i64 0, .int .i64 0, .int .i64 0, .string ⟨#[]⟩] 29)) (some g)) := grown_alloc (World.grownBy.refl _ _) _
  have HO : Hid (∀ W, w.grownBy W (some g) → Recs cEnc 4 W v f) := fun W hW => OwnR.recs cEnc_len (own_byR ho hW hgB)
  have HGF := hide hgf
  obtain ⟨fa, fc, rfl, hfc, hfc2⟩ := own_slc ho
  clear h ho hgf
  go_enter Tryd.func88, Tryd.ntmps88
  go_wp2_with fail
  go_loopg [5] 6 (fun gk s5 wr => ∃ (i : Nat) (pr : Int), i + gk = 6 ∧ s5 = .int .i64 (i : Int) ∧ Rd wr g pr ∧ w.grownBy wr (some g) ∧ wr.heap[w.heap.size]? = some (.cells #[.int .i64 0, .int .i64 0, .int .i64 0, .int .i64 0, .int .i64 0, .string ⟨#[]⟩] 29 (0, 0)) ∧ p ≤ pr ∧ pr + 8 * gk ≤ p + 60)
  case atStart => exact ⟨0, p, by omega, rfl, R0.out, G0.out, B0.out, by omega, by omega⟩
  case round =>
    clear R0 G0 B0
    obtain ⟨i, pr, hi, rfl, hR, hG, hB, hp1, hp2⟩ := hrel
    have R1 := hide hR
    have G1 := hide hG
    have B1 := hide hB
    clear hR hG hB
    by_cases h6 : (i : Int) < 6
    · go_wp2_with fail
      with_reducible refine (pick_any g pr 3 _ R1.out (by omega)).mono ?_
      rintro e w2 ⟨r, rfl, ⟨hr0, hr1⟩, hR2, hg2⟩
      have hr2 := hr1 (by omega)
      have hwr : IntKind.i64.wrap (1 + r) = 1 + r := by rw [IntKind.wrap_i64]; omega
      have hwl : IntKind.i64.wrap ((f.length : Int) + 1) = (f.length : Int) + 1 := by rw [IntKind.wrap_i64]; omega
      have R2 := hide hR2
      have G2 : Hid (w.grownBy w2 (some g)) := grown_trans G1.out hg2
      have B2 := hide (blk_by hg2 B1.out (by omega))
      clear hR2 hg2 hr1
      go_wp2_with fail
      with_reducible refine (pick_any g (pr + 1) ((f.length : Int) + 1) _ R2.out (by omega)).mono ?_
      rintro e w3 ⟨a, rfl, -, hR3, hg3⟩
      have R3 := hide (hR3.alloc (.cells #[.int .i64 (1 + r), .int .i64 a, .int .i64 0, .int .i64 0, .int .i64 0, .string ⟨#[]⟩] 29))
      have G3 : Hid (w.grownBy (w3.alloc (.cells #[.int .i64 (1 + r), .int .i64 a, .int .i64 0, .int .i64 0, .int .i64 0, .string ⟨#[]⟩] 29)) (some g)) := grown_alloc (grown_trans G2.out hg3) _
      have B3 := hide (blk_keep (blk_by hg3 B2.out (by omega)) (.cells #[.int .i64 (1 + r), .int .i64 a, .int .i64 0, .int .i64 0, .int .i64 0, .string ⟨#[]⟩] 29))
      have X3 := hide (blk_alloc w3 (.cells #[.int .i64 (1 + r), .int .i64 a, .int .i64 0, .int .i64 0, .int .i64 0, .string ⟨#[]⟩] 29))
      have s3 : w.heap.size < w3.heap.size := lt_block (blk_by hg3 B2.out (by omega))
      have s3g : g < w3.heap.size := hR3.lt
      clear hR3 hg3 R2 G2 B2 R1 G1 B1
      by_cases k1 : 1 + r = 1
      · have k1' : r = 0 := by omega
        subst k1'
        simp only [Int.add_zero] at *
        go_wp2_with fail
        with_reducible refine (randomColumn_any g (pr + 1 + 1) _ R3.out (by omega) (by omega)).mono ?_
        rintro e w4 ⟨c, q, rfl, hgv, hR4, hq, hg4⟩
        have R4 := hide hR4
        have G4 : Hid (w.grownBy w4 (some g)) := grown_trans G3.out hg4
        have B4 := hide (blk_by hg4 B3.out (by omega))
        have X4 := hide (blk_by hg4 X3.out (by omega))
        have HG := hide hgv
        obtain ⟨⟨a0, a1, a2, a3, a4, a5⟩, m0, m1, m2, m3, m4, m5⟩ := cells6 X4.out
        have R5 : Hid (Rd ((((w4.setCell ⟨w3.heap.size, 2, none⟩ (.int .i64 c.k)).setCell ⟨w3.heap.size, 3, none⟩ (.int .i64 c.d.k)).setCell ⟨w3.heap.size, 4, none⟩ (.int .i64 c.d.n)).setCell ⟨w3.heap.size, 5, none⟩ (.string c.d.s)) g q) := (Rd.setCell (Rd.setCell (Rd.setCell (Rd.setCell R4.out (by omega)) (by omega)) (by omega)) (by omega))
        have G5 : Hid (w.grownBy ((((w4.setCell ⟨w3.heap.size, 2, none⟩ (.int .i64 c.k)).setCell ⟨w3.heap.size, 3, none⟩ (.int .i64 c.d.k)).setCell ⟨w3.heap.size, 4, none⟩ (.int .i64 c.d.n)).setCell ⟨w3.heap.size, 5, none⟩ (.string c.d.s)) (some g)) := (grown_setNew (grown_setNew (grown_setNew (grown_setNew G4.out (by omega)) (by omega)) (by omega)) (by omega))
        have B5 : Hid (((((w4.setCell ⟨w3.heap.size, 2, none⟩ (.int .i64 c.k)).setCell ⟨w3.heap.size, 3, none⟩ (.int .i64 c.d.k)).setCell ⟨w3.heap.size, 4, none⟩ (.int .i64 c.d.n)).setCell ⟨w3.heap.size, 5, none⟩ (.string c.d.s)).heap[w.heap.size]? = some (.cells #[.int .i64 0, .int .i64 0, .int .i64 0, .int .i64 0, .int .i64 0, .string ⟨#[]⟩] 29 (0, 0))) := blk_other (blk_other (blk_other (blk_other B4.out (by omega)) (by omega)) (by omega)) (by omega)
        have X5 : Hid (((((w4.setCell ⟨w3.heap.size, 2, none⟩ (.int .i64 c.k)).setCell ⟨w3.heap.size, 3, none⟩ (.int .i64 c.d.k)).setCell ⟨w3.heap.size, 4, none⟩ (.int .i64 c.d.n)).setCell ⟨w3.heap.size, 5, none⟩ (.string c.d.s)).heap[w3.heap.size]? = some (.cells #[.int .i64 1, .int .i64 a, .int .i64 c.k, .int .i64 c.d.k, .int .i64 c.d.n, .string c.d.s] 29 (0, 0))) := by
          unfold Hid; rw [set_block (set_block (set_block (set_block X4.out _ _) _ _) _ _) _ _]; rfl
        clear hR4 hg4 hgv R3 G3 B3 X3
        have K5 := hide (HO.out _ G5.out)
        go_wp2_with fail
        with_reducible refine (schange_any ⟨1, a, c⟩ _ f _ K5.out (genV_okC HG.out) (genV_goodC HGF.out) (by omega) (by omega)).mono ?_
        rintro e w7 ⟨hb7, hq7⟩
        have R7 := hide (R5.out.keep hb7 R5.out.lt)
        have G7 : Hid (w.grownBy w7 (some g)) := grown_trans G5.out (grown_below hb7 _)
        have B7 := hide (blk_own hb7 B5.out)
        have X7 := hide (blk_own hb7 X5.out)
        clear hb7
        cases ho7 : (if posB f ⟨1, a, c⟩ then some (newC f ⟨1, a, c⟩) else none) with
        | none =>
          rw [ho7] at hq7
          obtain rfl := hq7
          clear ho7
          go_wp2_with fail
          go_roundg (gk - 1)
          case measure => omega
          case rel => exact ⟨i + 1, q, by omega, by go_num, R7.out, G7.out, B7.out, by omega, by omega⟩
        | some gx =>
          rw [ho7] at hq7
          obtain ⟨v7, rfl, -⟩ := hq7
          clear ho7
          obtain ⟨⟨b0, b1, b2, b3, b4, b5⟩, n0, n1, n2, n3, n4, n5⟩ := cells6 B7.out
          obtain ⟨⟨a0, a1, a2, a3, a4, a5⟩, -⟩ := cells6 X7.out
          go_wp2_with fail
          all_goals go_tidy
          exact ⟨rfl, .agg #[.int .i64 1, .int .i64 a, .int .i64 c.k, .int .i64 c.d.k, .int .i64 c.d.n, .string c.d.s], by simp [results, Tryd.results88, go_sem, b0, b1, b2, b3, b4, b5, n0, n1, n2, n3, n4, n5, a0, a1, a2, a3, a4, a5], ⟨1, a, c⟩, q, rfl, HG.out, (Rd.setCell (Rd.setCell (Rd.setCell (Rd.setCell (Rd.setCell (Rd.setCell R7.out (by omega)) (by omega)) (by omega)) (by omega)) (by omega)) (by omega)), by omega, (grown_setNew (grown_setNew (grown_setNew (grown_setNew (grown_setNew (grown_setNew G7.out (by omega)) (by omega)) (by omega)) (by omega)) (by omega)) (by omega))⟩
      · have x1 : (1 + r == 1) = false := by simp; omega
        have K3 := hide (HO.out _ G3.out)
        have hgz : genV ⟨0, 0, ⟨#[]⟩⟩ := ⟨(by show (0 : Nat) ≤ 100; omega), (by simp), (by simp)⟩
        go_wp2_with fail
        with_reducible refine (schange_any ⟨1 + r, a, ⟨0, ⟨0, 0, ⟨#[]⟩⟩⟩⟩ _ f _ K3.out (genV_okC hgz) (genV_goodC HGF.out) (by omega) (by omega)).mono ?_
        rintro e w7 ⟨hb7, hq7⟩
        have R7 := hide (R3.out.keep hb7 R3.out.lt)
        have G7 : Hid (w.grownBy w7 (some g)) := grown_trans G3.out (grown_below hb7 _)
        have B7 := hide (blk_own hb7 B3.out)
        have X7 := hide (blk_own hb7 X3.out)
        clear hb7
        cases ho7 : (if posB f ⟨1 + r, a, ⟨0, ⟨0, 0, ⟨#[]⟩⟩⟩⟩ then some (newC f ⟨1 + r, a, ⟨0, ⟨0, 0, ⟨#[]⟩⟩⟩⟩) else none) with
        | none =>
          rw [ho7] at hq7
          obtain rfl := hq7
          clear ho7
          go_wp2_with fail
          go_roundg (gk - 1)
          case measure => omega
          case rel => exact ⟨i + 1, (pr + 1 + 1), by omega, by go_num, R7.out, G7.out, B7.out, by omega, by omega⟩
        | some gx =>
          rw [ho7] at hq7
          obtain ⟨v7, rfl, -⟩ := hq7
          clear ho7
          obtain ⟨⟨b0, b1, b2, b3, b4, b5⟩, n0, n1, n2, n3, n4, n5⟩ := cells6 B7.out
          obtain ⟨⟨a0, a1, a2, a3, a4, a5⟩, -⟩ := cells6 X7.out
          go_wp2_with fail
          all_goals go_tidy
          exact ⟨rfl, .agg #[.int .i64 (1 + r), .int .i64 a, .int .i64 0, .int .i64 0, .int .i64 0, .string ⟨#[]⟩], by simp [results, Tryd.results88, go_sem, b0, b1, b2, b3, b4, b5, n0, n1, n2, n3, n4, n5, a0, a1, a2, a3, a4, a5], ⟨1 + r, a, ⟨0, ⟨0, 0, ⟨#[]⟩⟩⟩⟩, (pr + 1 + 1), rfl, hgz, (Rd.setCell (Rd.setCell (Rd.setCell (Rd.setCell (Rd.setCell (Rd.setCell R7.out (by omega)) (by omega)) (by omega)) (by omega)) (by omega)) (by omega)), by omega, (grown_setNew (grown_setNew (grown_setNew (grown_setNew (grown_setNew (grown_setNew G7.out (by omega)) (by omega)) (by omega)) (by omega)) (by omega)) (by omega))⟩
    · have hgk : gk = 0 := by omega
      obtain ⟨⟨b0, b1, b2, b3, b4, b5⟩, n0, n1, n2, n3, n4, n5⟩ := cells6 B1.out
      go_wp2_with fail
      all_goals go_tidy
      exact ⟨rfl, .agg #[.int .i64 2, .int .i64 0, .int .i64 0, .int .i64 0, .int .i64 0, .string ⟨#[]⟩], by simp [results, Tryd.results88, go_sem, b0, b1, b2, b3, b4, b5, n0, n1, n2, n3, n4, n5], ⟨2, 0, ⟨0, ⟨0, 0, ⟨#[]⟩⟩⟩⟩, pr, rfl, ⟨(by show (0 : Nat) ≤ 100; omega), (by simp), (by simp)⟩, (Rd.setCell (Rd.setCell (Rd.setCell (Rd.setCell (Rd.setCell (Rd.setCell R1.out (by omega)) (by omega)) (by omega)) (by omega)) (by omega)) (by omega)), by omega, (grown_setNew (grown_setNew (grown_setNew (grown_setNew (grown_setNew (grown_setNew G1.out (by omega)) (by omega)) (by omega)) (by omega)) (by omega)) (by omega))⟩
end Go.Proofs.YtdijcdadcbhipaaDoor
