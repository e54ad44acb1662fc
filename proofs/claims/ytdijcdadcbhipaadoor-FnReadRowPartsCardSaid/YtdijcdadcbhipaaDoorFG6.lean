/-
  The generator of any change.
-/
import Derived.Test.YtdijcdadcbhipaaDoorFG5
set_option linter.all false
namespace Go.Proofs.YtdijcdadcbhipaaDoor
open Go.RowKit
set_option maxHeartbeats 16000000 in
set_option maxRecDepth 100000 in
theorem anyChange_any (g : Nat) (p : Int) (B : Nat) (v : Value) (f : List RCol) (w : World) (h : Rd w g p) (hp : p < 400000000) (hp0 : 0 ≤ p) (ho : OwnC B w v f) (hgB : g < B) (hgf : ∀ x ∈ f, genV x.d) (hf5 : f.length ≤ 900) :
    Calls Tryd.prog 53 #[.pointer (some ⟨g, 0, none⟩), v] w (HPost w g p 70) := by
  have R0 := hide (h.alloc (.cells #[.int .i64 0, .int .i64 0, .int .i64 0, .int .i64 0, .int .i64 0, .string ⟨#[]⟩] 29))
  have hg : g < w.heap.size := h.lt
  have B0 := hide (blk_alloc w (.cells #[.int .i64 0, .int .i64 0, .int .i64 0, .int .i64 0, .int .i64 0, .string ⟨#[]⟩] 29))
  have G0 : Hid (w.grownBy (w.alloc (.cells #[.int .i64 0, .int .i64 0, .int .i64 0, .int .i64 0, .int .i64 0, .string ⟨#[]⟩] 29)) (some g)) := grown_alloc (World.grownBy.refl _ _) _
  have K0 := hide (OwnR.recs cEnc_len (OwnR.alloc ho (.cells #[.int .i64 0, .int .i64 0, .int .i64 0, .int .i64 0, .int .i64 0, .string ⟨#[]⟩] 29)))
  have HGF := hide hgf
  obtain ⟨fa, fc, rfl, hfc, hfc2⟩ := own_slc ho
  have hwl : IntKind.i64.wrap ((f.length : Int) + 1) = (f.length : Int) + 1 := by rw [IntKind.wrap_i64]; omega
  clear h ho hgf
  go_enter Tryd.func53, Tryd.ntmps53
  go_wp2_with fail
  with_reducible refine (scopyC_any _ f _ K0.out (by omega)).mono ?_
  rintro e w1 ⟨v1, rfl, ho1, hb1⟩
  have R1 := hide ((R0.out.keep hb1 R0.out.lt).alloc (.cells #[.int .i64 1, .int .i64 0, .int .i64 0, .string ⟨#[]⟩] 27))
  have G1 : Hid (w.grownBy (w1.alloc (.cells #[.int .i64 1, .int .i64 0, .int .i64 0, .string ⟨#[]⟩] 27)) (some g)) := grown_alloc (grown_trans G0.out (grown_below hb1 _)) _
  have B1 := hide (blk_keep (blk_own hb1 B0.out) (.cells #[.int .i64 1, .int .i64 0, .int .i64 0, .string ⟨#[]⟩] 27))
  have O1 := hide (OwnR.alloc ho1 (.cells #[.int .i64 1, .int .i64 0, .int .i64 0, .string ⟨#[]⟩] 27))
  have L1 := hide (recs_lit cEnc_len ⟨1, ⟨0, 0, ⟨#[]⟩⟩⟩ (blk_alloc w1 (.cells #[.int .i64 1, .int .i64 0, .int .i64 0, .string ⟨#[]⟩] 27)))
  have s1 : w.heap.size + 1 ≤ w1.heap.size := by have := hb1.size; simpa using this
  clear hb1 ho1 R0 B0 G0 K0
  go_wp2_with (at_builtin; refine wpList_appR (enc := cEnc) (k := 4) (by decide) cEnc_len cEnc_one rfl (.tmp 8) (.tmp 10) 23 27 rfl 40 (by decide) Tryd.underlying23 _ infoC rfl _ v1 f rfl O1.out (by omega) _ [⟨1, ⟨0, 0, ⟨#[]⟩⟩⟩] rfl L1.out (by simp) (by simp; omega) ?_)
  intro v2 w2 ho2 hgr2
  obtain ⟨gg, cc, rfl, hgg, hgl, hcc1, hcc2⟩ := OwnR.at ho2 (by simp)
  have hob := OwnR.base O1.out
  have R2 := hide (R1.out.keepOwn hgr2 (fun k e => by have := hob k e; simp at this; omega))
  have G2 : Hid (w.grownBy w2 (some g)) := grown_newO G1.out hgr2 (fun k e => by have := hob k e; simp at this; omega)
  have B2 : Hid (w2.heap[w.heap.size]? = some (.cells #[.int .i64 0, .int .i64 0, .int .i64 0, .int .i64 0, .int .i64 0, .string ⟨#[]⟩] 29 (0, 0))) := (hgr2.block _ (lt_block B1.out) (fun e => by have := hob _ e.symm; simp at this; omega)).trans B1.out
  obtain ⟨M, hM⟩ : ∃ M : Nat, M = max f.length 1 := ⟨_, rfl⟩
  have hM1 : 1 ≤ M := by omega
  have hM2 : M ≤ f.length + 1 := by omega
  have O2 := hide (OwnR.prefix cEnc_len ho2 M (by simp; omega))
  have HG2 : Hid (∀ x ∈ (f ++ [⟨1, ⟨0, 0, ⟨#[]⟩⟩⟩] : List RCol).take M, genV x.d) := fun x hx => by
    have hx := List.mem_of_mem_take hx
    rcases List.mem_append.1 hx with hx | hx
    · exact HGF.out x hx
    · rw [List.mem_singleton.1 hx]; exact ⟨(by show (0 : Nat) ≤ 100; omega), (by simp), (by simp)⟩
  have hMi : max (f.length : Int) 1 = (M : Int) := by omega
  have hMc : M ≤ cc := by simp at hcc1; omega
  have HLT : Hid (((f ++ [⟨1, ⟨0, 0, ⟨#[]⟩⟩⟩] : List RCol).take M).length = M) := by unfold Hid; rw [List.length_take, List.length_append]; simp; omega
  simp only [List.length_append, List.length_singleton] at *
  clear ho2 hgr2 hob O1 L1 R1 B1 G1 hM
  have HRC := hide (fun pp => randomChange_any g p _ _ _ w2 R2.out pp hp0 O2.out (by first | omega | (simp; omega)) HG2.out (by rw [HLT.out]; exact hM1) (by rw [HLT.out]; omega))
  go_wp2_with fail
  with_reducible refine (HRC.out (by omega)).mono ?_
  rintro e w4 ⟨c, q, rfl, hc, hR4, hq, hg4⟩
  have R4 := hide (hR4.alloc (.cells #[.int .i64 c.k, .int .i64 c.a, .int .i64 c.c.k, .int .i64 c.c.d.k, .int .i64 c.c.d.n, .string c.c.d.s] 29))
  have G4 : Hid (w.grownBy (w4.alloc (.cells #[.int .i64 c.k, .int .i64 c.a, .int .i64 c.c.k, .int .i64 c.c.d.k, .int .i64 c.c.d.n, .string c.c.d.s] 29)) (some g)) := grown_alloc (grown_trans G2.out hg4) _
  have B4 := hide (blk_keep (blk_by hg4 B2.out (by omega)) (.cells #[.int .i64 c.k, .int .i64 c.a, .int .i64 c.c.k, .int .i64 c.c.d.k, .int .i64 c.c.d.n, .string c.c.d.s] 29))
  have X4 := hide (blk_alloc w4 (.cells #[.int .i64 c.k, .int .i64 c.a, .int .i64 c.c.k, .int .i64 c.c.d.k, .int .i64 c.c.d.n, .string c.c.d.s] 29))
  have s4 : w.heap.size < w4.heap.size := lt_block (blk_by hg4 B2.out (by omega))
  have s4g : g < w4.heap.size := hR4.lt
  have HC := hide hc
  clear hR4 hg4 hc R2 G2 B2 O2 HRC HG2 HLT
  go_wp2_with fail
  with_reducible refine (pick_any g q 16 _ R4.out (by omega)).mono ?_
  rintro e w6 ⟨t, rfl, -, hR6, hg6⟩
  have R6 := hide hR6
  have G6 : Hid (w.grownBy w6 (some g)) := grown_trans G4.out hg6
  have B6 := hide (blk_by hg6 B4.out (by omega))
  have X6 := hide (blk_by hg6 X4.out (by omega))
  clear hR6 hg6 R4 B4 G4 X4
  by_cases t0 : t = 0
  · subst t0
    go_wp2_with fail
    refine (one_lit g (q + 1) _ 3 _ [0, 4, 3] _ (R6.out.alloc _) (by omega) (blk_alloc _ _) (by have := R6.out.lt; omega) (by simp) (by simp)).mono ?_
    rintro e w7 ⟨y, rfl, -, hR7, hg7⟩
    have R7 := hide hR7
    have G7 : Hid (w.grownBy w7 (some g)) := grown_trans (grown_alloc G6.out _) hg7
    have B7 := hide (blk_by hg7 (blk_keep B6.out _) (by omega))
    have X7 := hide (blk_by hg7 (blk_keep X6.out _) (by omega))
    clear hR7 hg7
    obtain ⟨⟨b0, b1, b2, b3, b4, b5⟩, n0, n1, n2, n3, n4, n5⟩ := cells6 B7.out
    obtain ⟨⟨a0, a1, a2, a3, a4, a5⟩, m0, m1, m2, m3, m4, m5⟩ := cells6 X7.out
    go_wp2_with fail
    all_goals go_tidy
    exact ⟨rfl, .agg #[.int .i64 y, .int .i64 c.a, .int .i64 c.c.k, .int .i64 c.c.d.k, .int .i64 c.c.d.n, .string c.c.d.s], by simp [results, Tryd.results53, go_sem, b0, b1, b2, b3, b4, b5, n0, n1, n2, n3, n4, n5, a0, a1, a2, a3, a4, a5, m0, m1, m2, m3, m4, m5], ⟨y, c.a, c.c⟩, (q + 1 + 1), rfl, HC.out, (Rd.setCell (Rd.setCell (Rd.setCell (Rd.setCell (Rd.setCell (Rd.setCell (Rd.setCell R7.out (by omega)) (by omega)) (by omega)) (by omega)) (by omega)) (by omega)) (by omega)), by omega, (grown_setNew (grown_setNew (grown_setNew (grown_setNew (grown_setNew (grown_setNew (grown_setNew G7.out (by omega)) (by omega)) (by omega)) (by omega)) (by omega)) (by omega)) (by omega))⟩
  obtain ⟨d0, d0'⟩ := i64_neq t0
  by_cases t1 : t = 1
  · subst t1
    go_wp2_with fail
    refine (one_lit g (q + 1) _ 3 _ [-1, (f.length : Int), (f.length : Int) + 1] _ (R6.out.alloc _) (by omega) (blk_alloc _ _) (by have := R6.out.lt; omega) (by simp) (by simp)).mono ?_
    rintro e w7 ⟨y, rfl, -, hR7, hg7⟩
    have R7 := hide hR7
    have G7 : Hid (w.grownBy w7 (some g)) := grown_trans (grown_alloc G6.out _) hg7
    have B7 := hide (blk_by hg7 (blk_keep B6.out _) (by omega))
    have X7 := hide (blk_by hg7 (blk_keep X6.out _) (by omega))
    clear hR7 hg7
    obtain ⟨⟨b0, b1, b2, b3, b4, b5⟩, n0, n1, n2, n3, n4, n5⟩ := cells6 B7.out
    obtain ⟨⟨a0, a1, a2, a3, a4, a5⟩, m0, m1, m2, m3, m4, m5⟩ := cells6 X7.out
    go_wp2_with fail
    all_goals go_tidy
    exact ⟨rfl, .agg #[.int .i64 c.k, .int .i64 y, .int .i64 c.c.k, .int .i64 c.c.d.k, .int .i64 c.c.d.n, .string c.c.d.s], by simp [results, Tryd.results53, go_sem, b0, b1, b2, b3, b4, b5, n0, n1, n2, n3, n4, n5, a0, a1, a2, a3, a4, a5, m0, m1, m2, m3, m4, m5], ⟨c.k, y, c.c⟩, (q + 1 + 1), rfl, HC.out, (Rd.setCell (Rd.setCell (Rd.setCell (Rd.setCell (Rd.setCell (Rd.setCell (Rd.setCell R7.out (by omega)) (by omega)) (by omega)) (by omega)) (by omega)) (by omega)) (by omega)), by omega, (grown_setNew (grown_setNew (grown_setNew (grown_setNew (grown_setNew (grown_setNew (grown_setNew G7.out (by omega)) (by omega)) (by omega)) (by omega)) (by omega)) (by omega)) (by omega))⟩
  obtain ⟨d1, d1'⟩ := i64_neq t1
  obtain ⟨⟨b0, b1, b2, b3, b4, b5⟩, n0, n1, n2, n3, n4, n5⟩ := cells6 B6.out
  obtain ⟨⟨a0, a1, a2, a3, a4, a5⟩, m0, m1, m2, m3, m4, m5⟩ := cells6 X6.out
  go_wp2_with fail
  all_goals go_tidy
  exact ⟨rfl, .agg #[.int .i64 c.k, .int .i64 c.a, .int .i64 c.c.k, .int .i64 c.c.d.k, .int .i64 c.c.d.n, .string c.c.d.s], by simp [results, Tryd.results53, go_sem, b0, b1, b2, b3, b4, b5, n0, n1, n2, n3, n4, n5, a0, a1, a2, a3, a4, a5, m0, m1, m2, m3, m4, m5], c, (q + 1), rfl, HC.out, (Rd.setCell (Rd.setCell (Rd.setCell (Rd.setCell (Rd.setCell (Rd.setCell R6.out (by omega)) (by omega)) (by omega)) (by omega)) (by omega)) (by omega)), by omega, (grown_setNew (grown_setNew (grown_setNew (grown_setNew (grown_setNew (grown_setNew G6.out (by omega)) (by omega)) (by omega)) (by omega)) (by omega)) (by omega))⟩
end Go.Proofs.YtdijcdadcbhipaaDoor
