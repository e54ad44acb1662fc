/-
  The generators of rows; DrawChangeRow.
-/
import Derived.Test.YtdijcdadcbhipaaDoorFG7
set_option linter.all false
namespace Go.Proofs.YtdijcdadcbhipaaDoor
open Go.RowKit
/-- a row that a generator has made, while it works -/
structure RInv (w wi : World) (g : Nat) (v : Value) (l : List RVal) (p : Int) : Prop where
  rd : Rd wi g p
  grown : w.grownBy wi (some g)
  own : OwnV w.heap.size wi v l
  gen : ∀ x ∈ l, genV x
  lo : g < w.heap.size
theorem RInv.size {w wi : World} {g : Nat} {v : Value} {l : List RVal} {p : Int} (h : RInv w wi g v l p) : w.heap.size ≤ wi.heap.size := h.grown.size
theorem RInv.by {w wi wj : World} {g : Nat} {v : Value} {l : List RVal} {p q : Int} (h : RInv w wi g v l p) (hg : wi.grownBy wj (some g)) (hr : Rd wj g q) : RInv w wj g v l q :=
  ⟨hr, grown_trans h.grown hg, own_byR h.own hg h.lo, h.gen, h.lo⟩
theorem RInv.alloc {w wi : World} {g : Nat} {v : Value} {l : List RVal} {p : Int} (h : RInv w wi g v l p) (o : Obj) : RInv w (wi.alloc o) g v l p :=
  h.by (grown_alloc (World.grownBy.refl _ _) _) (h.rd.alloc o)
theorem RInv.app {w wi wj : World} {g : Nat} {v v' : Value} {l : List RVal} {p : Int} {c : RVal} (h : RInv w wi g v l p) (ho : OwnV w.heap.size wj v' (l ++ [c])) (hg : wi.grownBy wj v.ownBlock) (hc : genV c) : RInv w wj g v' (l ++ [c]) p :=
  ⟨h.rd.keepOwn hg (fun k e => by have := OwnR.base h.own k e; have := h.lo; omega), grown_newO h.grown hg (OwnR.base h.own), ho, fun x hx => by
    rcases List.mem_append.1 hx with hx | hx
    · exact h.gen x hx
    · rw [List.mem_singleton.1 hx]; exact hc, h.lo⟩
theorem RInv.set {w wi : World} {g gg n c : Nat} {l : List RVal} {p : Int} (h : RInv w wi g (.slice (some ⟨gg, 0, none⟩) n c) l p) (hn : n = l.length) (i : Nat) (hi : i < l.length) (y : RVal) (hy : genV y) : RInv w (wi.setCells gg (i * 3) (vEnc y)) g (.slice (some ⟨gg, 0, none⟩) n c) (l.set i y) p := by
  have hlo : w.heap.size ≤ gg := OwnR.base h.own gg rfl
  have hlt := h.lo
  refine ⟨h.rd.keepBy (grown_setCells gg _ _ (World.grownBy.refl _ _)) (by omega), grown_new h.grown (grown_setCells gg _ _ (World.grownBy.refl _ _)) hlo, OwnR.set (by decide) vEnc_len h.own hn i hi y, fun x hx => ?_, h.lo⟩
  rcases List.mem_or_eq_of_mem_set hx with hx | rfl
  · exact h.gen x hx
  · exact hy
def RPost (w : World) (g : Nat) (p : Int) (K : Int) (e : Ending) (w' : World) : Prop := ∃ (v : Value) (l : List RVal) (q : Int), e = .returned v ∧ RInv w w' g v l q ∧ l.length ≤ 6 ∧ (p ≤ q ∧ q ≤ p + K)
set_option maxHeartbeats 8000000 in
set_option maxRecDepth 100000 in
theorem anyRow_any (g : Nat) (p : Int) (w : World) (h : Rd w g p) (hp : p < 500000000) (hp0 : 0 ≤ p) :
    Calls Tryd.prog 80 #[.pointer (some ⟨g, 0, none⟩)] w (RPost w g p 60) := by
  have hg : g < w.heap.size := h.lt
  have I0 : Hid (RInv w (w.alloc (.cells #[] 25)) g (.slice (some ⟨w.heap.size, 0, none⟩) 0 0) [] p) := ⟨h.alloc _, grown_alloc (World.grownBy.refl _ _) _, own_lit (Nat.le_refl _), (fun x hx => by simp at hx), hg⟩
  clear h
  go_enter Tryd.func80, Tryd.ntmps80
  go_wp2_with fail
  refine (one_lit g p (w.heap.size + 1) 7 _ [2, 3, 1, 0, 4, 5, 6] _ (I0.out.rd.alloc _) (by omega) (blk_at (W := w.alloc (.cells #[] 25)) (by simp) _) (by omega) (by decide) (by decide)).mono ?_
  rintro e w1 ⟨n, rfl, hm, hR1, hg1⟩
  have I1 := hide (I0.out.by (grown_trans (grown_alloc (World.grownBy.refl _ _) _) hg1) hR1)
  obtain ⟨m, rfl⟩ : ∃ m : Nat, n = (m : Int) := ⟨n.toNat, by simp at hm; omega⟩
  have hm5 : m ≤ 6 := by simp at hm; omega
  clear hm hR1 hg1 I0
  go_wp2_with fail
  go_loopg [3, 4] m (fun gk s3 s4 wr => s4 = .int .i64 (gk : Nat) ∧ ∃ (l : List RVal) (pr : Int), l.length + gk = m ∧ RInv w wr g s3 l pr ∧ (p ≤ pr ∧ pr + 5 * gk ≤ p + 40))
  case atStart => exact ⟨rfl, [], p + 1, by simp, I1.out, by omega⟩
  case round =>
    clear I1
    obtain ⟨rfl, l, pr, hlm, hI, hpr0, hpr⟩ := hrel
    have HI := hide hI
    obtain ⟨a3, c3, rfl, hc3, hc4⟩ := own_slc hI.own
    by_cases h0 : gk = 0
    · subst h0
      by_cases hl0 : l.length = 0
      · have hl1 : ¬ ((0 : Int) < (l.length : Int)) := by omega
        have HL := hide hl0
        clear hl0 hI
        go_wp2_with fail
        go_ret
        exact ⟨_, l, pr, rfl, HI.out, by have := HL.out; omega, by omega⟩
      · have hl1 : (0 : Int) < (l.length : Int) := by omega
        obtain ⟨gg, cg, hv, hgg1, hgg2, hgg3, hgg4⟩ := OwnR.at hI.own (by omega)
        injection hv with hv1 hv2 hv3
        subst hv1; subst hv3
        clear hI hl0
        go_wp2_with fail
        with_reducible refine (pick_any g pr 12 _ HI.out.rd (by omega)).mono ?_
        rintro e w2 ⟨t, rfl, -, hR2, hg2⟩
        have I2 := hide (HI.out.by hg2 hR2)
        clear hR2 hg2 HI
        by_cases ht : t = 0
        · subst ht
          go_wp2_with fail
          with_reducible refine (pick_any g (pr + 1) (l.length : Int) _ I2.out.rd (by omega)).mono ?_
          rintro e w3 ⟨i0, rfl, ⟨hi0, hi1⟩, hR3, hg3⟩
          obtain ⟨i, rfl⟩ : ∃ i : Nat, i0 = (i : Int) := ⟨i0.toNat, by omega⟩
          have hil : i < l.length := by have := hi1 (by omega); omega
          have I3 := hide (I2.out.by hg3 hR3)
          clear hR3 hg3 I2 hi1
          go_wp2_with fail
          with_reducible refine (anyValue_any g (pr + 1 + 1) _ I3.out.rd (by omega) (by omega)).mono ?_
          rintro e w4 ⟨y, q4, rfl, hy, hR4, hq4, hg4⟩
          have I4 := hide (I3.out.by hg4 hR4)
          have HY := hide hy
          have e0 : w4.cell? ⟨gg, i * 3, none⟩ = some (.int .i64 l[i].k) := by
            have := World.ownsRow.cellAt I4.out.own (i * 3) (by omega)
            rw [this, show i * 3 = i * 3 + 0 by omega, flat_at vEnc_len l i hil 0 (by omega)]; rfl
          have e1 : w4.cell? ⟨gg, i * 3 + 1, none⟩ = some (.int .i64 l[i].n) := by
            have := World.ownsRow.cellAt I4.out.own (i * 3 + 1) (by omega)
            rw [this, flat_at vEnc_len l i hil 1 (by omega)]; rfl
          have e2 : w4.cell? ⟨gg, i * 3 + 2, none⟩ = some (.string l[i].s) := by
            have := World.ownsRow.cellAt I4.out.own (i * 3 + 2) (by omega)
            rw [this, flat_at vEnc_len l i hil 2 (by omega)]; rfl
          have f0 := World.ownsRow.frozenAt I4.out.own (i * 3)
          have f1 := World.ownsRow.frozenAt I4.out.own (i * 3 + 1)
          have f2 := World.ownsRow.frozenAt I4.out.own (i * 3 + 2)
          have I5 : Hid (RInv w (((w4.setCell ⟨gg, i * 3, none⟩ (.int .i64 y.k)).setCell ⟨gg, i * 3 + 1, none⟩ (.int .i64 y.n)).setCell ⟨gg, i * 3 + 2, none⟩ (.string y.s)) g (.slice (some ⟨gg, 0, none⟩) l.length c3) (l.set i y) q4) := I4.out.set rfl i hil y HY.out
          generalize l[i] = x at *
          clear hR4 hg4 I3 I4 hy
          go_wp2_with fail
          go_ret
          exact ⟨_, l.set i y, q4, rfl, I5.out, by rw [List.length_set]; omega, by omega⟩
        · obtain ⟨d0, d1⟩ := i64_neq ht
          clear ht
          go_wp2_with fail
          go_ret
          exact ⟨_, l, pr + 1, rfl, I2.out, by omega, by omega⟩
    · have hgk : (0 : Int) < (gk : Int) := by omega
      clear hI
      go_wp2_with fail
      with_reducible refine (randomValue_any g pr (-1) wr HI.out.rd (by omega) (by omega)).mono ?_
      rintro e w3 ⟨c, q, rfl, hgv, hR3, hq, hg3⟩
      have I3 := hide (HI.out.by hg3 hR3)
      have HG := hide hgv
      have I4 := hide (I3.out.alloc (.cells #[.int .i64 c.k, .int .i64 c.n, .string c.s] 25))
      have L4 := hide (recs_lit vEnc_len c (blk_alloc w3 (.cells #[.int .i64 c.k, .int .i64 c.n, .string c.s] 25)))
      have S3 := hide I3.out.size
      clear hR3 hg3 hgv HI
      go_wp2_with (at_builtin; refine wpList_appR (enc := vEnc) (k := 3) (by decide) vEnc_len vEnc_one rfl (.tmp 13) (.tmp 16) 56 25 rfl 32 (by decide) Tryd.underlying56 _ infoV rfl w.heap.size (.slice a3 l.length c3) l rfl I4.out.own (by omega) _ [c] rfl L4.out (by simp) (by have := S3.out; simp; omega) ?_)
      intro v' w5 ho hgr
      have I5 := hide (I4.out.app ho hgr HG.out)
      clear ho hgr I4 L4
      go_wp2_with fail
      go_roundg (gk - 1)
      case measure => omega
      case rel => exact ⟨by go_num, l ++ [c], q, by simp; omega, I5.out, by omega⟩
set_option maxHeartbeats 8000000 in
set_option maxRecDepth 100000 in
theorem randomRow_any (g : Nat) (p : Int) (B : Nat) (v : Value) (f : List RCol) (w : World) (h : Rd w g p) (hp : p < 500000000) (hp0 : 0 ≤ p) (ho : OwnC B w v f) (hgB : g < B) (hf6 : f.length ≤ 6) :
    Calls Tryd.prog 96 #[.pointer (some ⟨g, 0, none⟩), v] w (RPost w g p 60) := by
  have hg : g < w.heap.size := h.lt
  have I0 : Hid (RInv w (w.alloc (.cells #[] 25)) g (.slice (some ⟨w.heap.size, 0, none⟩) 0 0) [] p) := ⟨h.alloc _, grown_alloc (World.grownBy.refl _ _) _, own_lit (Nat.le_refl _), (fun x hx => by simp at hx), hg⟩
  have HO : Hid (∀ W, w.grownBy W (some g) → Recs cEnc 4 W v f) := fun W hW => OwnR.recs cEnc_len (own_byR ho hW hgB)
  obtain ⟨fa, fc, rfl, hfc, hfc2⟩ := own_slc ho
  clear h ho
  go_enter Tryd.func96, Tryd.ntmps96
  go_wp2_with fail
  go_loopg [5, 6] f.length (fun gk s5 s6 wr => ∃ (i : Nat) (l : List RVal) (pr : Int), i + gk = f.length ∧ s6 = .int .i64 (i : Int) ∧ l.length = i ∧ RInv w wr g s5 l pr ∧ (p ≤ pr ∧ pr + 5 * gk ≤ p + 40))
  case atStart => exact ⟨0, [], p, by omega, rfl, rfl, I0.out, by omega⟩
  case round =>
    clear I0
    obtain ⟨i, l, pr, hlm, rfl, hli, hI, hpr0, hpr⟩ := hrel
    have HLI := hide hli
    clear hli
    have HI := hide hI
    obtain ⟨a3, c3, rfl, hc3, hc4⟩ := own_slc hI.own
    have HF := hide (HO.out _ hI.grown)
    clear hI
    by_cases h0 : i < f.length
    · have HE : Hid (∃ b off, fa = some ⟨b, off, none⟩ ∧ wr.cell? ⟨b, off + i * 4, none⟩ = some (.int .i64 f[i].k)) := by
        obtain ⟨a', cap', hv, -, -, -, hd⟩ := HF.out
        obtain ⟨b', off', he, hb, hc⟩ := hd.resolve_left (by rintro rfl; simp at h0)
        injection hv with h1 h2 h3
        exact ⟨b', off', by rw [h1, he], (at4 (hc i h0)).1⟩
      obtain ⟨b, off, rfl, e0⟩ := HE.out
      clear HE HF
      go_wp2_with fail
      with_reducible refine (randomValue_any g pr _ wr HI.out.rd (by omega) (by omega)).mono ?_
      rintro e w3 ⟨c, q, rfl, hgv, hR3, hq, hg3⟩
      have I3 := hide (HI.out.by hg3 hR3)
      have HG := hide hgv
      have I4 := hide (I3.out.alloc (.cells #[.int .i64 c.k, .int .i64 c.n, .string c.s] 25))
      have L4 := hide (recs_lit vEnc_len c (blk_alloc w3 (.cells #[.int .i64 c.k, .int .i64 c.n, .string c.s] 25)))
      have S3 := hide I3.out.size
      have hl9 : l.length ≤ 1048576 := by have := HLI.out; omega
      clear hR3 hg3 hgv HI e0
      go_wp2_with (at_builtin; refine wpList_appR (enc := vEnc) (k := 3) (by decide) vEnc_len vEnc_one rfl (.tmp 14) (.tmp 22) 56 25 rfl 32 (by decide) Tryd.underlying56 _ infoV rfl w.heap.size (.slice a3 l.length c3) l rfl I4.out.own hl9 _ [c] rfl L4.out (by simp) (by have := S3.out; simp; omega) ?_)
      intro v' w5 ho hgr
      have I5 := hide (I4.out.app ho hgr HG.out)
      clear ho hgr I4 L4
      go_wp2_with fail
      go_roundg (gk - 1)
      case measure => omega
      case rel => exact ⟨i + 1, l ++ [c], q, by omega, by go_num, by simp; exact HLI.out, I5.out, by omega⟩
    · have hif : i = f.length := by omega
      subst hif
      clear HF
      go_wp2_with fail
      go_ret
      exact ⟨_, l, pr, rfl, HI.out, by have := HLI.out; omega, by omega⟩
set_option maxHeartbeats 4000000 in
set_option maxRecDepth 100000 in
theorem someRow_any (g : Nat) (p : Int) (B : Nat) (v : Value) (f : List RCol) (w : World) (h : Rd w g p) (hp : p < 400000000) (hp0 : 0 ≤ p) (ho : OwnC B w v f) (hgB : g < B) (hf6 : f.length ≤ 6) :
    Calls Tryd.prog 68 #[.pointer (some ⟨g, 0, none⟩), v] w (RPost w g p 70) := by
  have HO := hide ho
  have HR := hide h
  have hg := h.lt
  obtain ⟨fa, fc, rfl, hfc, hfc2⟩ := own_slc ho
  clear h ho
  go_enter Tryd.func68, Tryd.ntmps68
  go_wp2_with fail
  with_reducible refine (pick_any g p 10 _ HR.out (by omega)).mono ?_
  rintro e w2 ⟨t, rfl, -, hR2, hg2⟩
  have R2 := hide hR2
  have O2 : Hid (OwnC B w2 (.slice fa f.length fc) f) := own_byR HO.out hg2 hgB
  have KK : Hid (∀ e w', RPost w2 g (p + 1) 60 e w' → RPost w g p 70 e w') := by
    rintro e w' ⟨v', l, q, h1, h2, h3, h4⟩
    exact ⟨v', l, q, h1, ⟨h2.rd, grown_trans hg2 h2.grown, OwnR.mono h2.own hg2.size, h2.gen, hg⟩, h3, by omega⟩
  clear hR2 hg2 HR HO
  by_cases ht : t = 0
  · subst ht
    go_wp2_with fail
    with_reducible refine (anyRow_any g (p + 1) _ R2.out (by omega) (by omega)).mono ?_
    rintro e w3 hq
    obtain ⟨v', l, q, rfl, h2⟩ := KK.out _ _ hq
    have H2 := hide h2
    clear h2 hq
    go_wp2_with fail
    go_ret
    exact ⟨v', l, q, rfl, H2.out⟩
  · obtain ⟨d0, d1⟩ := i64_neq ht
    go_wp2_with fail
    with_reducible refine (randomRow_any g (p + 1) B _ f _ R2.out (by omega) (by omega) O2.out hgB hf6).mono ?_
    rintro e w3 hq
    obtain ⟨v', l, q, rfl, h2⟩ := KK.out _ _ hq
    have H2 := hide h2
    clear h2 hq
    go_wp2_with fail
    go_ret
    exact ⟨v', l, q, rfl, H2.out⟩
end Go.Proofs.YtdijcdadcbhipaaDoor
