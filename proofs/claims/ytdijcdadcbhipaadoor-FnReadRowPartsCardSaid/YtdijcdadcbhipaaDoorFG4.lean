/-
  The generator of any format.
-/
import Derived.Test.YtdijcdadcbhipaaDoorFG3
set_option linter.all false
namespace Go.Proofs.YtdijcdadcbhipaaDoor
open Go.RowKit
theorem FInv.store {w wi : World} {g gg n c : Nat} {l l' : List RCol} {p : Int} (h : FInv w wi g (.slice (some ⟨gg, 0, none⟩) n c) l p) {vs : List Value} {o : Nat} (hl : l'.length = l.length) (hc : l'.flatMap cEnc = (l.flatMap cEnc).take o ++ vs ++ (l.flatMap cEnc).drop (o + vs.length)) (ho : o + vs.length ≤ (l.flatMap cEnc).length) (hg : ∀ x ∈ l', genV x.d) : FInv w (wi.setCells gg o vs) g (.slice (some ⟨gg, 0, none⟩) n c) l' p := by
  have hn : n = l.length := by
    rcases h.own.2 with ⟨e, _⟩ | ⟨g', cap', cur, e, _⟩
    · cases e
    · injection e
  have hlo : w.heap.size ≤ gg := OwnR.base h.own gg rfl
  have hlt := h.lo
  refine ⟨?_, ?_, ?_, hg, h.lo⟩
  · exact h.rd.keepBy (grown_setCells gg vs o (World.grownBy.refl _ _)) (by omega)
  · exact grown_new h.grown (grown_setCells gg vs o (World.grownBy.refl _ _)) hlo
  · have how := h.own
    unfold OwnC OwnR at how ⊢
    subst hn
    obtain ⟨cur, hgb, hs, hcm, hnc, hB, hxl, hx⟩ := own_at how
    have hnk : l.length * 4 ≤ c * 4 := Nat.mul_le_mul_right _ hnc
    have hfl : (l.flatMap cEnc).length = l.length * 4 := flat_len cEnc_len l
    rw [hl]
    refine own_of hB (heap_setCells vs o hgb) (by rw [putC_size]; exact hs) hcm hnc (by rw [flat_len cEnc_len, hl]) fun j hj => ?_
    rw [hc] at hj ⊢
    have h1 : ((l.flatMap cEnc).take o).length = o := by rw [List.length_take]; omega
    rcases Nat.lt_or_ge j o with q | q
    · rw [putC_out _ _ _ _ (.inl q), List.append_assoc, List.getElem?_append_left (by omega), List.getElem?_take, if_pos q]
      exact hx j (by omega)
    · rcases Nat.lt_or_ge j (o + vs.length) with q2 | q2
      · rw [putC_at (by omega) q q2, List.getElem?_append_left (by rw [List.length_append]; omega), List.getElem?_append_right (by omega), h1]
      · rw [putC_out _ _ _ _ (.inr q2), List.getElem?_append_right (by rw [List.length_append]; omega), List.length_append, h1, List.getElem?_drop]
        rw [show o + vs.length + (j - (o + vs.length)) = j by omega]
        simp only [List.length_append, List.length_drop, h1] at hj
        exact hx j (by omega)
set_option maxHeartbeats 8000000 in
set_option maxRecDepth 100000 in
theorem anyFormat_any (g : Nat) (p : Int) (w : World) (h : Rd w g p) (hp : p < 600000000) (hp0 : 0 ≤ p) :
    Calls Tryd.prog 52 #[.pointer (some ⟨g, 0, none⟩)] w (FPost w g p 100 0 6) := by
  go_enter Tryd.func52, Tryd.ntmps52
  go_wp2_with fail
  with_reducible refine (randomFormat_any g p _ h (by omega) (by omega)).mono ?_
  rintro e w1 ⟨v, l, q, rfl, hI, hl1, hl5, hq⟩
  have I1 := hide hI
  obtain ⟨gg, c, rfl, hg1, hg2, hg3, hg4⟩ := hI.own.at hl1
  have hg := h.lt
  clear h hI
  go_wp2_with fail
  with_reducible refine (pick_any g q 24 _ I1.out.rd (by omega)).mono ?_
  rintro e w2 ⟨t, rfl, -, hR2, hg2'⟩
  have I2 := hide (I1.out.by hg2' hR2)
  clear hR2 hg2' I1
  by_cases t0 : t = 0
  · subst t0
    go_wp2_with fail
    refine (one_lit g (q + 1) _ 3 _ [0, 3, 1] _ (I2.out.rd.alloc _) (by omega) (blk_alloc _ _) (by have := I2.out.rd.lt; omega) (by decide) (by decide)).mono ?_
    rintro e w3 ⟨y, rfl, -, hR3, hg3'⟩
    have I3 := hide (I2.out.by (grown_trans (grown_alloc (World.grownBy.refl _ _) _) hg3') hR3)
    clear hR3 hg3' I2
    cases l with
    | nil => simp at hl1
    | cons x r =>
      have e0 : w3.cell? ⟨gg, 0, none⟩ = some (.int .i64 x.k) := by rw [World.ownsRow.cellAt I3.out.own 0 (by simp)]; rfl
      have f0 : w3.frozen? ⟨gg, 0, none⟩ = false := World.ownsRow.frozenAt I3.out.own 0
      have I4 : Hid (FInv w (w3.setCell ⟨gg, 0, none⟩ (.int .i64 y)) g (.slice (some ⟨gg, 0, none⟩) (x :: r).length c) (⟨y, x.d⟩ :: r) (q + 1 + 1)) :=
        I3.out.store (vs := [.int .i64 y]) (o := 0) rfl rfl (by simp [cEnc]) (fun z hz => by
          rcases List.mem_cons.1 hz with rfl | hz
          · exact I3.out.gen x (List.mem_cons_self ..)
          · exact I3.out.gen z (List.mem_cons_of_mem _ hz))
      clear I3
      go_wp2_with fail
      go_ret
      exact ⟨_, _, _, rfl, I4.out, by simp, by simp at hl5 ⊢; omega, by omega⟩
  obtain ⟨d0, d0'⟩ := i64_neq t0
  by_cases t1 : t = 1
  · subst t1
    go_wp2_with fail
    with_reducible refine (anyValue_any g (q + 1) _ I2.out.rd (by omega) (by omega)).mono ?_
    rintro e w3 ⟨y, q3, rfl, hy, hR3, hq3, hg3'⟩
    have I3 := hide (I2.out.by hg3' hR3)
    have HY := hide hy
    clear hR3 hg3' I2 hy
    cases l with
    | nil => simp at hl1
    | cons x r =>
      have e1 : w3.cell? ⟨gg, 1, none⟩ = some (.int .i64 x.d.k) := by rw [World.ownsRow.cellAt I3.out.own 1 (by simp; omega)]; rfl
      have e2 : w3.cell? ⟨gg, 2, none⟩ = some (.int .i64 x.d.n) := by rw [World.ownsRow.cellAt I3.out.own 2 (by simp; omega)]; rfl
      have e3 : w3.cell? ⟨gg, 3, none⟩ = some (.string x.d.s) := by rw [World.ownsRow.cellAt I3.out.own 3 (by simp; omega)]; rfl
      have f1 : w3.frozen? ⟨gg, 1, none⟩ = false := World.ownsRow.frozenAt I3.out.own 1
      have f2 : w3.frozen? ⟨gg, 2, none⟩ = false := World.ownsRow.frozenAt I3.out.own 2
      have f3 : w3.frozen? ⟨gg, 3, none⟩ = false := World.ownsRow.frozenAt I3.out.own 3
      have I4 : Hid (FInv w (((w3.setCell ⟨gg, 1, none⟩ (.int .i64 y.k)).setCell ⟨gg, 2, none⟩ (.int .i64 y.n)).setCell ⟨gg, 3, none⟩ (.string y.s)) g (.slice (some ⟨gg, 0, none⟩) (x :: r).length c) (⟨x.k, y⟩ :: r) q3) :=
        I3.out.store (vs := [.int .i64 y.k, .int .i64 y.n, .string y.s]) (o := 1) rfl rfl (by simp [cEnc]) (fun z hz => by
          rcases List.mem_cons.1 hz with rfl | hz
          · exact HY.out
          · exact I3.out.gen z (List.mem_cons_of_mem _ hz))
      clear I3
      go_wp2_with fail
      go_ret
      exact ⟨_, _, _, rfl, I4.out, by simp, by simp at hl5 ⊢; omega, by omega⟩
  obtain ⟨d1, d1'⟩ := i64_neq t1
  by_cases t2 : t = 2
  · subst t2
    have I4 : Hid (FInv w (w2.alloc (.cells #[] 27)) g (.slice (some ⟨w2.heap.size, 0, none⟩) 0 0) [] (q + 1)) := ⟨I2.out.rd.alloc _, grown_alloc I2.out.grown _, OwnR.mono (own_lit (Nat.le_refl _)) I2.out.size, (fun x hx => by simp at hx), I2.out.lo⟩
    clear I2
    go_wp2_with fail
    go_ret
    exact ⟨_, _, _, rfl, I4.out, by simp, by simp, by omega⟩
  obtain ⟨d2, d2'⟩ := i64_neq t2
  by_cases t3 : t = 3
  · subst t3
    go_wp2_with fail
    go_loopg [3] (6 - l.length) (fun gk s3 wr => ∃ (l' : List RCol) (pr : Int), l'.length + gk = 6 ∧ FInv w wr g s3 l' pr ∧ (p ≤ pr ∧ pr + 6 * gk ≤ p + 100))
    case atStart => exact ⟨l, q + 1, by omega, I2.out, by omega⟩
    case round =>
      clear I2
      obtain ⟨l', pr, hlm, hI, hpr0, hpr⟩ := hrel
      have HI := hide hI
      obtain ⟨a3, c3, rfl, hc3, hc4⟩ := own_slc hI.own
      clear hI
      by_cases h0 : gk = 0
      · subst h0
        have h6 : l'.length = 6 := by omega
        have h6' : ¬ (l'.length : Int) < 6 := by omega
        have HL := hide h6
        clear h6
        go_wp2_with fail
        go_ret
        exact ⟨_, l', pr, rfl, HI.out, by omega, by have := HL.out; omega, by omega⟩
      · have hgk : (l'.length : Int) < 6 := by omega
        go_wp2_with fail
        with_reducible refine (randomColumn_any g pr wr HI.out.rd (by omega) (by omega)).mono ?_
        rintro e w3 ⟨cc, q3, rfl, hgv, hR3, hq3, hg3'⟩
        have I3 := hide (HI.out.by hg3' hR3)
        have HG := hide hgv
        have I4 := hide (I3.out.alloc (.cells #[.int .i64 cc.k, .int .i64 cc.d.k, .int .i64 cc.d.n, .string cc.d.s] 27))
        have L4 := hide (recs_lit cEnc_len cc (blk_alloc w3 (.cells #[.int .i64 cc.k, .int .i64 cc.d.k, .int .i64 cc.d.n, .string cc.d.s] 27)))
        have S3 := hide I3.out.size
        clear hR3 hg3' hgv HI
        go_wp2_with (at_builtin; refine wpList_appR (enc := cEnc) (k := 4) (by decide) cEnc_len cEnc_one rfl (.tmp 31) (.tmp 34) 23 27 rfl 40 (by decide) Tryd.underlying23 _ infoC rfl w.heap.size (.slice a3 l'.length c3) l' rfl I4.out.own (by omega) _ [cc] rfl L4.out (by simp) (by have := S3.out; simp; omega) ?_)
        intro v' w5 ho hgr
        have I5 := hide (I4.out.app ho hgr HG.out)
        clear ho hgr I4 L4
        go_wp2_with fail
        go_roundg (gk - 1)
        case measure => omega
        case rel => exact ⟨l' ++ [cc], q3, by simp; omega, I5.out, by omega⟩
  obtain ⟨d3, d3'⟩ := i64_neq t3
  go_wp2_with fail
  go_ret
  exact ⟨_, _, _, rfl, I2.out, by omega, by omega, by omega⟩
end Go.Proofs.YtdijcdadcbhipaaDoor
