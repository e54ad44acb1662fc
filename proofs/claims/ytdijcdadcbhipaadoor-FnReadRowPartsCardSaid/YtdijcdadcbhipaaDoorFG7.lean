/-
  DrawChangeFormat.
-/
import Derived.Test.YtdijcdadcbhipaaDoorFG6
set_option linter.all false
namespace Go.Proofs.YtdijcdadcbhipaaDoor
open Go.RowKit
theorem BytesAt.keepAll {w w' : World} {v : Value} (h : BytesAt w v) (hb : Below w.heap.size w w') : BytesAt w' v := by
  obtain ⟨a, len, cap, rfl, h1, h2, h3⟩ := h
  refine ⟨a, len, cap, rfl, h1, h2, ?_⟩
  exact Or.imp id (fun ⟨b, off, e, hlt, hc⟩ => ⟨b, off, e, Nat.lt_of_lt_of_le hlt hb.size, fun i hi => by
    obtain ⟨x, hx, q1, q2⟩ := hc i hi
    exact ⟨x, (hb.cell (p := ⟨b, off + i, none⟩) hlt).trans hx, q1, q2⟩⟩) h3
theorem below_of_grown {a b c : World} {g : Nat} (h : Below a.heap.size a b) (k : b.grownBy c (some g)) (hg : a.heap.size ≤ g) : Below a.heap.size a c := h.grown k h.size (fun j hj => by injection hj with hj; omega)
def DrawCF (w : World) (e : Ending) (w' : World) : Prop := ∃ (v : Value) (f : List RCol) (c : RChg), e = .returned (.tuple #[v, (.agg #[.int .i64 c.k, .int .i64 c.a, .int .i64 c.c.k, .int .i64 c.c.d.k, .int .i64 c.c.d.n, .string c.c.d.s])]) ∧ OwnC w.heap.size w' v f ∧ (∀ x ∈ f, genV x.d) ∧ genV c.c.d ∧ f.length ≤ 6 ∧ Below w.heap.size w w'
set_option maxHeartbeats 4000000 in
set_option maxRecDepth 100000 in
theorem drawChangeFormat_any (v : Value) (w : World) (h : BytesAt w v) :
    Calls Tryd.prog 15 #[v] w (DrawCF w) := by
  have HA := hide (h.keepAll (below_box w (.cells #[.int .i64 0, .int .i64 0, .int .i64 0, .int .i64 0, .int .i64 0, .string ⟨#[]⟩] 29)))
  have B0 := hide (blk_alloc w (.cells #[.int .i64 0, .int .i64 0, .int .i64 0, .int .i64 0, .int .i64 0, .string ⟨#[]⟩] 29))
  have H0 := hide (below_box w (.cells #[.int .i64 0, .int .i64 0, .int .i64 0, .int .i64 0, .int .i64 0, .string ⟨#[]⟩] 29))
  obtain ⟨a, len, cap, rfl, h1, h2, -⟩ := h
  go_enter Tryd.func15, Tryd.ntmps15
  go_wp2_with fail
  with_reducible refine (newReader_any _ _ HA.out).mono ?_
  rintro e w1 ⟨g, rfl, hg, hR1, hb1⟩
  have R1 := hide hR1
  have H1 := hide (H0.out.trans (hb1.mono H0.out.size))
  have B1 := hide (blk_own hb1 B0.out)
  have hgw : w.heap.size < g := by simp at hg; omega
  clear hR1 hb1 hg
  go_wp2_with fail
  with_reducible refine (anyFormat_any g 0 _ R1.out (by omega) (by omega)).mono ?_
  rintro e w2 ⟨v2, f, q, rfl, hI, -, hl6, hq⟩
  have I2 := hide hI
  have H2 := hide (below_of_grown H1.out hI.grown (by omega))
  have B2 := hide (blk_by hI.grown B1.out (by omega))
  obtain ⟨a2, c2, rfl, hc2, hc2'⟩ := own_slc hI.own
  have s1 := H1.out.size
  clear hI
  go_wp2_with fail
  with_reducible refine (anyChange_any g q w1.heap.size _ f _ I2.out.rd (by omega) (by omega) I2.out.own I2.out.lo I2.out.gen (by omega)).mono ?_
  rintro e w3 ⟨c, q3, rfl, hgc, -, -, hg3⟩
  have H3 := hide (below_of_grown H2.out hg3 (by omega))
  have B3 := hide (blk_by hg3 B2.out (by omega))
  have O3 : Hid (OwnC w.heap.size w3 (.slice a2 f.length c2) f) := OwnR.mono (own_byR I2.out.own hg3 I2.out.lo) s1
  have HG := hide hgc
  have GF := hide I2.out.gen
  have s3 : w.heap.size < w3.heap.size := lt_block B3.out
  have OF : Hid (OwnC w.heap.size ((((((w3.setCell ⟨w.heap.size, 0, none⟩ (.int .i64 c.k)).setCell ⟨w.heap.size, 1, none⟩ (.int .i64 c.a)).setCell ⟨w.heap.size, 2, none⟩ (.int .i64 c.c.k)).setCell ⟨w.heap.size, 3, none⟩ (.int .i64 c.c.d.k)).setCell ⟨w.heap.size, 4, none⟩ (.int .i64 c.c.d.n)).setCell ⟨w.heap.size, 5, none⟩ (.string c.c.d.s)) (.slice a2 f.length c2) f) := by
    have hlo := World.ownsRow.lt (OwnR.keep (own_byR I2.out.own hg3 I2.out.lo) (Below.refl _ _))
    refine World.ownsRow.kept O3.out (grown_setCells w.heap.size [.int .i64 c.k, .int .i64 c.a, .int .i64 c.c.k, .int .i64 c.c.d.k, .int .i64 c.c.d.n, .string c.c.d.s] 0 (World.grownBy.refl _ _)) ?_
    cases hv : (Value.slice a2 f.length c2).ownBlock with
    | none => exact .inl rfl
    | some k => exact .inr (fun e => by injection e with e; have := (hlo k hv).1; have := H1.out.size; have := lt_block B1.out; omega)
  obtain ⟨⟨b0, b1, b2, b3, b4, b5⟩, n0, n1, n2, n3, n4, n5⟩ := cells6 B3.out
  clear hg3 hgc O3 I2 R1
  go_wp2_with fail
  all_goals go_tidy
  exact ⟨rfl, .tuple #[.slice a2 f.length c2, .agg #[.int .i64 c.k, .int .i64 c.a, .int .i64 c.c.k, .int .i64 c.c.d.k, .int .i64 c.c.d.n, .string c.c.d.s]], by simp [results, Tryd.results15, go_sem, b0, b1, b2, b3, b4, b5, n0, n1, n2, n3, n4, n5], _, f, c, rfl, OF.out, GF.out, HG.out, hl6, ((((((H3.out.setCell (by simp) _).setCell (by simp) _).setCell (by simp) _).setCell (by simp) _).setCell (by simp) _).setCell (by simp) _)⟩
end Go.Proofs.YtdijcdadcbhipaaDoor
