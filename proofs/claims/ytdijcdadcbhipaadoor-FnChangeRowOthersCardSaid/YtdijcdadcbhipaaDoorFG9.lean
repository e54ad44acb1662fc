/-
  DrawChangeRow.
-/
import Derived.Test.YtdijcdadcbhipaaDoorFG8
set_option linter.all false
namespace Go.Proofs.YtdijcdadcbhipaaDoor
open Go.RowKit
def DrawCR (w : World) (e : Ending) (w' : World) : Prop := ∃ (v u : Value) (f : List RCol) (r : List RVal) (c : RChg), e = .returned (.tuple #[v, u, (.agg #[.int .i64 c.k, .int .i64 c.a, .int .i64 c.c.k, .int .i64 c.c.d.k, .int .i64 c.c.d.n, .string c.c.d.s])]) ∧ Recs cEnc 4 w' v f ∧ Recs vEnc 3 w' u r ∧ (∀ x ∈ f, genV x.d) ∧ (∀ x ∈ r, genV x) ∧ genV c.c.d ∧ f.length ≤ 6 ∧ r.length ≤ 6 ∧ Below w.heap.size w w'
set_option maxHeartbeats 4000000 in
set_option maxRecDepth 100000 in
theorem drawChangeRow_any (v : Value) (w : World) (h : BytesAt w v) :
    Calls Tryd.prog 31 #[v] w (DrawCR w) := by
  have HA := hide (h.keepAll (below_box w (.cells #[.int .i64 0, .int .i64 0, .int .i64 0, .int .i64 0, .int .i64 0, .string ⟨#[]⟩] 29)))
  have B0 := hide (blk_alloc w (.cells #[.int .i64 0, .int .i64 0, .int .i64 0, .int .i64 0, .int .i64 0, .string ⟨#[]⟩] 29))
  have H0 := hide (below_box w (.cells #[.int .i64 0, .int .i64 0, .int .i64 0, .int .i64 0, .int .i64 0, .string ⟨#[]⟩] 29))
  obtain ⟨a, len, cap, rfl, h1, h2, -⟩ := h
  go_enter Tryd.func31, Tryd.ntmps31
  go_wp2_with fail
  with_reducible refine (newReader_any _ _ HA.out).mono ?_
  rintro e w1 ⟨g, rfl, hg, hR1, hb1⟩
  have R1 := hide hR1
  have H1 := hide (H0.out.trans (hb1.mono H0.out.size))
  have B1 := hide (blk_own hb1 B0.out)
  have hgw : w.heap.size < g := by simp at hg; omega
  clear hR1 hb1 hg
  go_wp2_with fail
  with_reducible refine (anyFormat_any g 0 _ R1.out (by omega) (by omega)).mono ?_
  rintro e w2 ⟨v2, f, q, rfl, hI, -, hl6, hq⟩
  have I2 := hide hI
  have H2 := hide (below_of_grown H1.out hI.grown (by omega))
  have B2 := hide (blk_by hI.grown B1.out (by omega))
  obtain ⟨a2, c2, rfl, hc2, hc2'⟩ := own_slc hI.own
  have s1 := H1.out.size
  clear hI
  go_wp2_with fail
  with_reducible refine (someRow_any g q w1.heap.size _ f _ I2.out.rd (by omega) (by omega) I2.out.own I2.out.lo hl6).mono ?_
  rintro e w3 ⟨u3, r, q2, rfl, hR, hr6, hq2⟩
  have I3 := hide (I2.out.by hR.grown hR.rd)
  have H3 := hide (below_of_grown H2.out hR.grown (by omega))
  have B3 := hide (blk_by hR.grown B2.out (by omega))
  have J3 := hide hR
  obtain ⟨a3, c3, rfl, hc3, hc3'⟩ := own_slc hR.own
  have s2 := I2.out.size
  clear hR I2
  go_wp2_with fail
  with_reducible refine (anyChange_any g q2 w1.heap.size _ f _ I3.out.rd (by omega) (by omega) I3.out.own I3.out.lo I3.out.gen (by omega)).mono ?_
  rintro e w4 ⟨c, q3, rfl, hgc, -, -, hg4⟩
  have H4 := hide (below_of_grown H3.out hg4 (by omega))
  have B4 := hide (blk_by hg4 B3.out (by omega))
  have OC4 : Hid (OwnR cEnc 4 27 w1.heap.size w4 (.slice a2 f.length c2) f) := own_byR I3.out.own hg4 I3.out.lo
  have OV4 : Hid (OwnR vEnc 3 25 w2.heap.size w4 (.slice a3 r.length c3) r) := own_byR J3.out.own hg4 J3.out.lo
  have HG := hide hgc
  have GF := hide I3.out.gen
  have GR := hide J3.out.gen
  have s4 : w.heap.size < w4.heap.size := lt_block B4.out
  have hw01 : w.heap.size < w1.heap.size := lt_block B1.out
  have KF : Hid (∀ x ∈ ([.slice a2 f.length c2, .slice a3 r.length c3] : List Value), ∀ k, x.ownBlock = some k → w.heap.size < k) := by
    intro x hx k hk
    simp only [List.mem_cons, List.not_mem_nil, or_false] at hx
    rcases hx with rfl | rfl
    · have := OwnR.base OC4.out k hk; omega
    · have := OwnR.base OV4.out k hk; omega
  have SET : Hid (∀ W', w4.grownBy W' (some w.heap.size) → Recs cEnc 4 W' (.slice a2 f.length c2) f ∧ Recs vEnc 3 W' (.slice a3 r.length c3) r) := fun W' hW => ⟨OwnR.recs cEnc_len (World.ownsRow.kept OC4.out hW (by
      cases hv : (Value.slice a2 f.length c2).ownBlock with
      | none => exact .inl rfl
      | some k => exact .inr (fun e => by injection e with e; have := KF.out _ (List.mem_cons_self ..) k hv; omega))),
    OwnR.recs vEnc_len (World.ownsRow.kept OV4.out hW (by
      cases hv : (Value.slice a3 r.length c3).ownBlock with
      | none => exact .inl rfl
      | some k => exact .inr (fun e => by injection e with e; have := KF.out _ (List.mem_cons_of_mem _ (List.mem_cons_self ..)) k hv; omega)))⟩
  have OF : Hid (Recs cEnc 4 ((((((w4.setCell ⟨w.heap.size, 0, none⟩ (.int .i64 c.k)).setCell ⟨w.heap.size, 1, none⟩ (.int .i64 c.a)).setCell ⟨w.heap.size, 2, none⟩ (.int .i64 c.c.k)).setCell ⟨w.heap.size, 3, none⟩ (.int .i64 c.c.d.k)).setCell ⟨w.heap.size, 4, none⟩ (.int .i64 c.c.d.n)).setCell ⟨w.heap.size, 5, none⟩ (.string c.c.d.s)) (.slice a2 f.length c2) f ∧ Recs vEnc 3 ((((((w4.setCell ⟨w.heap.size, 0, none⟩ (.int .i64 c.k)).setCell ⟨w.heap.size, 1, none⟩ (.int .i64 c.a)).setCell ⟨w.heap.size, 2, none⟩ (.int .i64 c.c.k)).setCell ⟨w.heap.size, 3, none⟩ (.int .i64 c.c.d.k)).setCell ⟨w.heap.size, 4, none⟩ (.int .i64 c.c.d.n)).setCell ⟨w.heap.size, 5, none⟩ (.string c.c.d.s)) (.slice a3 r.length c3) r) :=
    SET.out _ (grown_setCells w.heap.size [.int .i64 c.k, .int .i64 c.a, .int .i64 c.c.k, .int .i64 c.c.d.k, .int .i64 c.c.d.n, .string c.c.d.s] 0 (World.grownBy.refl _ _))
  obtain ⟨⟨b0, b1, b2, b3, b4, b5⟩, n0, n1, n2, n3, n4, n5⟩ := cells6 B4.out
  clear hg4 hgc I3 J3 R1 SET KF OC4 OV4
  go_wp2_with fail
  all_goals go_tidy
  exact ⟨rfl, .tuple #[.slice a2 f.length c2, .slice a3 r.length c3, .agg #[.int .i64 c.k, .int .i64 c.a, .int .i64 c.c.k, .int .i64 c.c.d.k, .int .i64 c.c.d.n, .string c.c.d.s]], by simp [results, Tryd.results31, go_sem, b0, b1, b2, b3, b4, b5, n0, n1, n2, n3, n4, n5], _, _, f, r, c, rfl, OF.out.1, OF.out.2, GF.out, GR.out, HG.out, hl6, hr6, ((((((H4.out.setCell (by simp) _).setCell (by simp) _).setCell (by simp) _).setCell (by simp) _).setCell (by simp) _).setCell (by simp) _)⟩
end Go.Proofs.YtdijcdadcbhipaaDoor
