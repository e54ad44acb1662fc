/-
  The walk of FnChangeFormatOthers.
-/
import Derived.Test.YtdijcdadcbhipaaDoorFG7
import Derived.Test.YtdijcdadcbhipaaDoorFPl
import Derived.Test.YtdijcdadcbhipaaDoorFEq
import Derived.Test.YtdijcdadcbhipaaDoorFPl2
import Derived.RegionCalls
import Derived.Deep.RegionLaw
set_option linter.all false
namespace Go.Proofs.YtdijcdadcbhipaaDoor
open Go.RowKit
set_option maxHeartbeats 16000000 in
set_option maxRecDepth 100000 in
theorem fnChangeFormatOthers_walk (v : Value) (w : World) (h : BytesAt w v) (ht : Tab w) :
    Calls Tryd.prog 5 #[v] w fun e w' => e = .returned (.bool true) ∧ Below w.heap.size w w' := by
  have HB := hide h
  obtain ⟨a, len, cap0, rfl, hlc, hcap0, -⟩ := h
  by_cases hlen : 1048576 < len
  · go_enter Tryd.func5, Tryd.ntmps5
    go_wp2_with fail
    go_ret
    exact ⟨rfl, Below.refl _ _⟩
  go_enter Tryd.func5, Tryd.ntmps5
  go_wp2_with fail
  with_reducible refine (drawChangeFormat_any _ _ HB.out).mono ?_
  rintro e w1 ⟨v1, f, c, rfl, ho1, hgf, hgc, hl6, hb1⟩
  have H1 := hide hb1
  have F1 := hide (OwnR.recs cEnc_len ho1)
  obtain ⟨fa, fc, rfl, hfc, hfc2⟩ := own_slc ho1
  have OKF : Hid (∀ x ∈ f, okC x) := fun x hx => genV_okC (hgf x hx)
  have OKC : Hid (okC c.c) := genV_okC hgc
  have HX := hide (blk_alloc w1 (.cells #[.int .i64 c.k, .int .i64 c.a, .int .i64 c.c.k, .int .i64 c.c.d.k, .int .i64 c.c.d.n, .string c.c.d.s] 29))
  have HBX := hide (below_box w1 (.cells #[.int .i64 c.k, .int .i64 c.a, .int .i64 c.c.k, .int .i64 c.c.d.k, .int .i64 c.c.d.n, .string c.c.d.s] 29))
  have H2 : Hid (Below w.heap.size w (w1.alloc (.cells #[.int .i64 c.k, .int .i64 c.a, .int .i64 c.c.k, .int .i64 c.c.d.k, .int .i64 c.c.d.n, .string c.c.d.s] 29))) := H1.out.trans (HBX.out.mono H1.out.size)
  have F2 := hide (F1.out.keep HBX.out)
  clear hb1 ho1 hgf hgc HB
  go_wp2_with fail
  with_reducible refine (iChange_any c _ f _ F2.out (ht.keep H2.out)).mono ?_
  rintro e w3 ⟨hb3, hq3⟩
  have H3 : Hid (Below w.heap.size w w3) := H2.out.trans (hb3.mono H2.out.size)
  have F3 := hide (F2.out.keep hb3)
  have X3 := hide (blk_own hb3 HX.out)
  clear hb3
  cases hR : chC f c with
  | none =>
    rw [hR] at hq3
    obtain rfl := hq3
    obtain ⟨⟨c0, c1, c2, c3, c4, c5⟩, -⟩ := cells6 X3.out
    have HR := hide hR
    clear hR
    go_wp2_with fail
    with_reducible refine (sChange_any c _ f _ F3.out OKF.out OKC.out).mono ?_
    rintro e w4 ⟨hb4, hq4⟩
    have H4 : Hid (Below w.heap.size w w4) := H3.out.trans (hb4.mono H3.out.size)
    rw [HR.out] at hq4
    obtain rfl := hq4
    have X4 := hide (blk_own hb4 X3.out)
    clear hb4 c0 c1 c2 c3 c4 c5
    go_wp2_with fail
    with_reducible refine (eqC_same _ _ [] _ (recs_nil _) (recs_nil _)).mono ?_
    rintro e w5 ⟨rfl, hb5⟩
    have H5 : Hid (Below w.heap.size w w5) := H4.out.trans (hb5.mono H4.out.size)
    clear hb5
    go_wp2_with fail
    with_reducible refine (eqC_same _ _ [] _ (recs_nil _) (recs_nil _)).mono ?_
    rintro e w6 ⟨rfl, hb6⟩
    have H6 : Hid (Below w.heap.size w w6) := H5.out.trans (hb6.mono H5.out.size)
    clear hb6
    go_wp2_with fail
    go_ret
    exact ⟨rfl, H6.out⟩
  | some G =>
    rw [hR] at hq3
    obtain ⟨v3, rfl, ho3⟩ := hq3
    have HR := hide hR
    have G3 := hide (OwnR.recs cEnc_len ho3)
    obtain ⟨qfm, qpo, qG⟩ := chC_some hR
    have hfm := hide qfm
    have hpo := hide qpo
    have hGv : Hid (fmtB G = true) := by unfold Hid; rw [qG]; exact fmt_new qfm qpo
    have hG := hide qG
    clear qfm qpo qG
    obtain ⟨gg, gc, rfl, hgg1, hgg2, hgg3, hgg4⟩ := OwnR.at ho3 (fmt_len2 hGv.out).1
    have hG5 := (fmt_len2 hGv.out).2.1
    obtain ⟨⟨c0, c1, c2, c3, c4, c5⟩, -⟩ := cells6 X3.out
    clear hR ho3
    go_wp2_with fail
    with_reducible refine (sChange_any c _ f _ F3.out OKF.out OKC.out).mono ?_
    rintro e w4 ⟨hb4, hq4⟩
    have H4 : Hid (Below w.heap.size w w4) := H3.out.trans (hb4.mono H3.out.size)
    rw [HR.out] at hq4
    obtain ⟨v4, rfl, ho4⟩ := hq4
    have F4 := hide (F3.out.keep hb4)
    have G4 := hide (G3.out.keep hb4)
    have K4 := hide (OwnR.recs cEnc_len ho4)
    have X4 := hide (blk_own hb4 X3.out)
    clear hb4 ho4 c0 c1 c2 c3 c4 c5
    go_wp2_with fail
    with_reducible refine (eqC_same _ _ G _ G4.out K4.out).mono ?_
    rintro e w5 ⟨rfl, hb5⟩
    have H5 : Hid (Below w.heap.size w w5) := H4.out.trans (hb5.mono H4.out.size)
    have F5 := hide (F4.out.keep hb5)
    have G5 := hide (G4.out.keep hb5)
    have X5 := hide (blk_own hb5 X4.out)
    obtain ⟨⟨c0, c1, c2, c3, c4, c5⟩, -⟩ := cells6 X5.out
    obtain ⟨i, hi, hil, hcase⟩ := pos_at hpo.out
    clear hb5
    rw [hi] at c1
    rcases hcase with ⟨hk, h5, hcc, e⟩ | ⟨hk, hlt, h2, e⟩ | ⟨hk, hlt, hk1, e⟩
    · rw [hk] at c0
      have hdd : G.drop (i + 1) = f.drop i := by rw [hG.out, e, List.append_assoc]; exact drop_app f _ i 1 hil
      have hGl : G.length = f.length + 1 := by rw [hG.out, e]; simp; omega
      have hal : (i + 1) ≤ G.length := by omega
      have hbl : i ≤ f.length := by omega
      have hw1 : IntKind.i64.wrap ((i : Int) + 1) = (i : Int) + 1 := by rw [IntKind.wrap_i64]; omega
      have htn : ((i : Int) + 1).toNat = i + 1 := by omega
      have q0 : (0 : Int) ≤ (i : Int) + 1 := by omega
      have q1 : (((i : Int) + 1)) ≤ (G.length : Int) := by omega
      have q2 : ((i : Int)) ≤ (f.length : Int) := by omega
      obtain ⟨fb, foff, fcc, hv1, -, -⟩ := F5.out.at (fmt_len2 hfm.out).1
      injection hv1 with hv1 hv2 hv3
      subst hv1; subst hv3
      have hix : i < G.length := by omega
      have hgi : G[i] = c.c := by
        have : G[i]? = some c.c := by rw [hG.out, e, List.append_assoc, List.getElem?_append_right (by simp; omega)]; simp [show i - min i f.length = 0 by omega]
        rw [List.getElem?_eq_getElem hix] at this
        injection this
      have hii : (i : Int) < (G.length : Int) := by omega
      have GC : Hid (∀ W, Below w5.heap.size w5 W → ∀ j u, (cEnc c.c)[j]? = some u → W.cell? ⟨gg, i * 4 + j, none⟩ = some u) := by
        intro W hW j u hu
        rw [← hgi] at hu
        obtain ⟨a', cap', hv, -, -, -, hd⟩ := G5.out
        obtain ⟨b', off', he, hb, hc⟩ := hd.resolve_left (by intro h; rw [h] at hix; simp at hix)
        injection hv with h1 h2 h3
        subst h1
        injection he with he
        injection he with he1 he2 he3
        subst he1; subst he2
        have := hc i hix j u hu
        rw [Nat.zero_add] at this
        exact (hW.cell (p := ⟨gg, _, none⟩) hb).trans this
      clear hgi
      have HGL := hide hGl
      clear hGl
      by_cases hA : gc = (i + 1)
      · by_cases hB : fc = i
        · have EE := hide (fun z : BW w5 => eqC_same (.slice (some ⟨gg, 0, none⟩) 0 0) (.slice (some ⟨fb, foff, none⟩) 0 0) (f.drop i) z.v (by
                have := (G5.out.keep z.h).drop0 (i + 1) hal hA
                rw [show G.length - (i + 1) = 0 by omega, show gc - (i + 1) = 0 by omega, hdd] at this
                exact this) (by
                have := (F5.out.keep z.h).drop0 i hbl hB
                rw [show f.length - i = 0 by omega, show fc - i = 0 by omega] at this
                exact this))
          clear hdd
          subst hA
          subst hB
          have z0 := fun z : BW w5 => bw_cell (p := ⟨w1.heap.size, 0, none⟩) (lt_block X5.out) c0 z
          have z1 := fun z : BW w5 => bw_cell (p := ⟨w1.heap.size, 1, none⟩) (lt_block X5.out) c1 z
          have z2 := fun z : BW w5 => bw_cell (p := ⟨w1.heap.size, 2, none⟩) (lt_block X5.out) c2 z
          have z3 := fun z : BW w5 => bw_cell (p := ⟨w1.heap.size, 3, none⟩) (lt_block X5.out) c3 z
          have z4 := fun z : BW w5 => bw_cell (p := ⟨w1.heap.size, 4, none⟩) (lt_block X5.out) c4 z
          have z5 := fun z : BW w5 => bw_cell (p := ⟨w1.heap.size, 5, none⟩) (lt_block X5.out) c5 z
          have y := fun z : BW w5 => at4 (GC.out z.v z.h)
          have y0 := fun z => (y z).1
          have y1 := fun z => (y z).2.1
          have y2 := fun z => (y z).2.2.1
          have y3 := fun z => (y z).2.2.2
          clear y
          have heq := eql_col c.c
          have hgd := guard_colE c.c
          clear GC hG hpo hfm hGv HR OKF OKC F1 F2 F3 F4 F5 G3 G4 G5 K4 HX X3 X4 H1 H2 H3 H4 HBX e
          go_wp2_with fail
          refine wp_region_bw (by kernel_rfl) (by kernel_rfl) ?_
          repeat (go_big_quiet_step (first | (go_at_call 18; with_reducible exact bw_of (EE.out _))))
          refine wpQuiet_nil ?_
          rintro _ ⟨z, rfl⟩
          have H6 : Hid (Below w.heap.size w z.v) := H5.out.trans (z.h.mono H5.out.size)
          clear z0 z1 z2 z3 z4 z5
          go_wp2_with fail
          go_ret
          exact ⟨rfl, H6.out⟩
        · have EE := hide (fun z : BW w5 => eqC_same (.slice (some ⟨gg, 0, none⟩) 0 0) (.slice (some ⟨fb, foff + i * 4, none⟩) (f.length - i) (fc - i)) (f.drop i) z.v (by
                have := (G5.out.keep z.h).drop0 (i + 1) hal hA
                rw [show G.length - (i + 1) = 0 by omega, show gc - (i + 1) = 0 by omega, hdd] at this
                exact this) ((F5.out.keep z.h).drop i hbl))
          clear hdd
          subst hA
          have z0 := fun z : BW w5 => bw_cell (p := ⟨w1.heap.size, 0, none⟩) (lt_block X5.out) c0 z
          have z1 := fun z : BW w5 => bw_cell (p := ⟨w1.heap.size, 1, none⟩) (lt_block X5.out) c1 z
          have z2 := fun z : BW w5 => bw_cell (p := ⟨w1.heap.size, 2, none⟩) (lt_block X5.out) c2 z
          have z3 := fun z : BW w5 => bw_cell (p := ⟨w1.heap.size, 3, none⟩) (lt_block X5.out) c3 z
          have z4 := fun z : BW w5 => bw_cell (p := ⟨w1.heap.size, 4, none⟩) (lt_block X5.out) c4 z
          have z5 := fun z : BW w5 => bw_cell (p := ⟨w1.heap.size, 5, none⟩) (lt_block X5.out) c5 z
          have y := fun z : BW w5 => at4 (GC.out z.v z.h)
          have y0 := fun z => (y z).1
          have y1 := fun z => (y z).2.1
          have y2 := fun z => (y z).2.2.1
          have y3 := fun z => (y z).2.2.2
          clear y
          have heq := eql_col c.c
          have hgd := guard_colE c.c
          clear GC hG hpo hfm hGv HR OKF OKC F1 F2 F3 F4 F5 G3 G4 G5 K4 HX X3 X4 H1 H2 H3 H4 HBX e
          go_wp2_with fail
          refine wp_region_bw (by kernel_rfl) (by kernel_rfl) ?_
          repeat (go_big_quiet_step (first | (go_at_call 18; with_reducible exact bw_of (EE.out _))))
          refine wpQuiet_nil ?_
          rintro _ ⟨z, rfl⟩
          have H6 : Hid (Below w.heap.size w z.v) := H5.out.trans (z.h.mono H5.out.size)
          clear z0 z1 z2 z3 z4 z5
          go_wp2_with fail
          go_ret
          exact ⟨rfl, H6.out⟩
      · by_cases hB : fc = i
        · have EE := hide (fun z : BW w5 => eqC_same (.slice (some ⟨gg, (i + 1) * 4, none⟩) (G.length - (i + 1)) (gc - (i + 1))) (.slice (some ⟨fb, foff, none⟩) 0 0) (f.drop i) z.v (by
                have := (G5.out.keep z.h).drop (i + 1) hal
                rw [hdd, Nat.zero_add] at this
                exact this) (by
                have := (F5.out.keep z.h).drop0 i hbl hB
                rw [show f.length - i = 0 by omega, show fc - i = 0 by omega] at this
                exact this))
          subst hB
          have z0 := fun z : BW w5 => bw_cell (p := ⟨w1.heap.size, 0, none⟩) (lt_block X5.out) c0 z
          have z1 := fun z : BW w5 => bw_cell (p := ⟨w1.heap.size, 1, none⟩) (lt_block X5.out) c1 z
          have z2 := fun z : BW w5 => bw_cell (p := ⟨w1.heap.size, 2, none⟩) (lt_block X5.out) c2 z
          have z3 := fun z : BW w5 => bw_cell (p := ⟨w1.heap.size, 3, none⟩) (lt_block X5.out) c3 z
          have z4 := fun z : BW w5 => bw_cell (p := ⟨w1.heap.size, 4, none⟩) (lt_block X5.out) c4 z
          have z5 := fun z : BW w5 => bw_cell (p := ⟨w1.heap.size, 5, none⟩) (lt_block X5.out) c5 z
          have y := fun z : BW w5 => at4 (GC.out z.v z.h)
          have y0 := fun z => (y z).1
          have y1 := fun z => (y z).2.1
          have y2 := fun z => (y z).2.2.1
          have y3 := fun z => (y z).2.2.2
          clear y
          have heq := eql_col c.c
          have hgd := guard_colE c.c
          clear GC hG hpo hfm hGv HR OKF OKC F1 F2 F3 F4 F5 G3 G4 G5 K4 HX X3 X4 H1 H2 H3 H4 HBX e
          go_wp2_with fail
          refine wp_region_bw (by kernel_rfl) (by kernel_rfl) ?_
          repeat (go_big_quiet_step (first | (go_at_call 18; with_reducible exact bw_of (EE.out _))))
          refine wpQuiet_nil ?_
          rintro _ ⟨z, rfl⟩
          have H6 : Hid (Below w.heap.size w z.v) := H5.out.trans (z.h.mono H5.out.size)
          clear z0 z1 z2 z3 z4 z5
          go_wp2_with fail
          go_ret
          exact ⟨rfl, H6.out⟩
        · have EE := hide (fun z : BW w5 => eqC_same (.slice (some ⟨gg, (i + 1) * 4, none⟩) (G.length - (i + 1)) (gc - (i + 1))) (.slice (some ⟨fb, foff + i * 4, none⟩) (f.length - i) (fc - i)) (f.drop i) z.v (by
                have := (G5.out.keep z.h).drop (i + 1) hal
                rw [hdd, Nat.zero_add] at this
                exact this) ((F5.out.keep z.h).drop i hbl))
          have z0 := fun z : BW w5 => bw_cell (p := ⟨w1.heap.size, 0, none⟩) (lt_block X5.out) c0 z
          have z1 := fun z : BW w5 => bw_cell (p := ⟨w1.heap.size, 1, none⟩) (lt_block X5.out) c1 z
          have z2 := fun z : BW w5 => bw_cell (p := ⟨w1.heap.size, 2, none⟩) (lt_block X5.out) c2 z
          have z3 := fun z : BW w5 => bw_cell (p := ⟨w1.heap.size, 3, none⟩) (lt_block X5.out) c3 z
          have z4 := fun z : BW w5 => bw_cell (p := ⟨w1.heap.size, 4, none⟩) (lt_block X5.out) c4 z
          have z5 := fun z : BW w5 => bw_cell (p := ⟨w1.heap.size, 5, none⟩) (lt_block X5.out) c5 z
          have y := fun z : BW w5 => at4 (GC.out z.v z.h)
          have y0 := fun z => (y z).1
          have y1 := fun z => (y z).2.1
          have y2 := fun z => (y z).2.2.1
          have y3 := fun z => (y z).2.2.2
          clear y
          have heq := eql_col c.c
          have hgd := guard_colE c.c
          clear GC hG hpo hfm hGv HR OKF OKC F1 F2 F3 F4 F5 G3 G4 G5 K4 HX X3 X4 H1 H2 H3 H4 HBX e
          go_wp2_with fail
          refine wp_region_bw (by kernel_rfl) (by kernel_rfl) ?_
          repeat (go_big_quiet_step (first | (go_at_call 18; with_reducible exact bw_of (EE.out _))))
          refine wpQuiet_nil ?_
          rintro _ ⟨z, rfl⟩
          have H6 : Hid (Below w.heap.size w z.v) := H5.out.trans (z.h.mono H5.out.size)
          clear z0 z1 z2 z3 z4 z5
          go_wp2_with fail
          go_ret
          exact ⟨rfl, H6.out⟩
    · rw [hk] at c0
      have hdd : G.drop i = f.drop (i + 1) := by rw [hG.out, e]; exact drop_app f _ i 0 hil
      have hGl : G.length = f.length - 1 := by rw [hG.out, e]; simp; omega
      have hal : i ≤ G.length := by omega
      have hbl : (i + 1) ≤ f.length := by omega
      have hw1 : IntKind.i64.wrap ((i : Int) + 1) = (i : Int) + 1 := by rw [IntKind.wrap_i64]; omega
      have htn : ((i : Int) + 1).toNat = i + 1 := by omega
      have q0 : (0 : Int) ≤ (i : Int) + 1 := by omega
      have q1 : ((i : Int)) ≤ (G.length : Int) := by omega
      have q2 : (((i : Int) + 1)) ≤ (f.length : Int) := by omega
      obtain ⟨fb, foff, fcc, hv1, -, -⟩ := F5.out.at (fmt_len2 hfm.out).1
      injection hv1 with hv1 hv2 hv3
      subst hv1; subst hv3
      have GC : Hid True := trivial
      have HGL := hide hGl
      clear hGl
      by_cases hA : gc = i
      · by_cases hB : fc = (i + 1)
        · have EE := hide (fun z : BW w5 => eqC_same (.slice (some ⟨gg, 0, none⟩) 0 0) (.slice (some ⟨fb, foff, none⟩) 0 0) (f.drop (i + 1)) z.v (by
                have := (G5.out.keep z.h).drop0 i hal hA
                rw [show G.length - i = 0 by omega, show gc - i = 0 by omega, hdd] at this
                exact this) (by
                have := (F5.out.keep z.h).drop0 (i + 1) hbl hB
                rw [show f.length - (i + 1) = 0 by omega, show fc - (i + 1) = 0 by omega] at this
                exact this))
          clear hdd
          subst hA
          subst hB
          have z0 := fun z : BW w5 => bw_cell (p := ⟨w1.heap.size, 0, none⟩) (lt_block X5.out) c0 z
          have z1 := fun z : BW w5 => bw_cell (p := ⟨w1.heap.size, 1, none⟩) (lt_block X5.out) c1 z
          have z2 := fun z : BW w5 => bw_cell (p := ⟨w1.heap.size, 2, none⟩) (lt_block X5.out) c2 z
          have z3 := fun z : BW w5 => bw_cell (p := ⟨w1.heap.size, 3, none⟩) (lt_block X5.out) c3 z
          have z4 := fun z : BW w5 => bw_cell (p := ⟨w1.heap.size, 4, none⟩) (lt_block X5.out) c4 z
          have z5 := fun z : BW w5 => bw_cell (p := ⟨w1.heap.size, 5, none⟩) (lt_block X5.out) c5 z
          clear GC hG hpo hfm hGv HR OKF OKC F1 F2 F3 F4 F5 G3 G4 G5 K4 HX X3 X4 H1 H2 H3 H4 HBX e
          go_wp2_with fail
          refine wp_region_bw (by kernel_rfl) (by kernel_rfl) ?_
          repeat (go_big_quiet_step (first | (go_at_call 18; with_reducible exact bw_of (EE.out _))))
          refine wpQuiet_nil ?_
          rintro _ ⟨z, rfl⟩
          have H6 : Hid (Below w.heap.size w z.v) := H5.out.trans (z.h.mono H5.out.size)
          clear z0 z1 z2 z3 z4 z5
          go_wp2_with fail
          go_ret
          exact ⟨rfl, H6.out⟩
        · have EE := hide (fun z : BW w5 => eqC_same (.slice (some ⟨gg, 0, none⟩) 0 0) (.slice (some ⟨fb, foff + (i + 1) * 4, none⟩) (f.length - (i + 1)) (fc - (i + 1))) (f.drop (i + 1)) z.v (by
                have := (G5.out.keep z.h).drop0 i hal hA
                rw [show G.length - i = 0 by omega, show gc - i = 0 by omega, hdd] at this
                exact this) ((F5.out.keep z.h).drop (i + 1) hbl))
          clear hdd
          subst hA
          have z0 := fun z : BW w5 => bw_cell (p := ⟨w1.heap.size, 0, none⟩) (lt_block X5.out) c0 z
          have z1 := fun z : BW w5 => bw_cell (p := ⟨w1.heap.size, 1, none⟩) (lt_block X5.out) c1 z
          have z2 := fun z : BW w5 => bw_cell (p := ⟨w1.heap.size, 2, none⟩) (lt_block X5.out) c2 z
          have z3 := fun z : BW w5 => bw_cell (p := ⟨w1.heap.size, 3, none⟩) (lt_block X5.out) c3 z
          have z4 := fun z : BW w5 => bw_cell (p := ⟨w1.heap.size, 4, none⟩) (lt_block X5.out) c4 z
          have z5 := fun z : BW w5 => bw_cell (p := ⟨w1.heap.size, 5, none⟩) (lt_block X5.out) c5 z
          clear GC hG hpo hfm hGv HR OKF OKC F1 F2 F3 F4 F5 G3 G4 G5 K4 HX X3 X4 H1 H2 H3 H4 HBX e
          go_wp2_with fail
          refine wp_region_bw (by kernel_rfl) (by kernel_rfl) ?_
          repeat (go_big_quiet_step (first | (go_at_call 18; with_reducible exact bw_of (EE.out _))))
          refine wpQuiet_nil ?_
          rintro _ ⟨z, rfl⟩
          have H6 : Hid (Below w.heap.size w z.v) := H5.out.trans (z.h.mono H5.out.size)
          clear z0 z1 z2 z3 z4 z5
          go_wp2_with fail
          go_ret
          exact ⟨rfl, H6.out⟩
      · by_cases hB : fc = (i + 1)
        · have EE := hide (fun z : BW w5 => eqC_same (.slice (some ⟨gg, i * 4, none⟩) (G.length - i) (gc - i)) (.slice (some ⟨fb, foff, none⟩) 0 0) (f.drop (i + 1)) z.v (by
                have := (G5.out.keep z.h).drop i hal
                rw [hdd, Nat.zero_add] at this
                exact this) (by
                have := (F5.out.keep z.h).drop0 (i + 1) hbl hB
                rw [show f.length - (i + 1) = 0 by omega, show fc - (i + 1) = 0 by omega] at this
                exact this))
          subst hB
          have z0 := fun z : BW w5 => bw_cell (p := ⟨w1.heap.size, 0, none⟩) (lt_block X5.out) c0 z
          have z1 := fun z : BW w5 => bw_cell (p := ⟨w1.heap.size, 1, none⟩) (lt_block X5.out) c1 z
          have z2 := fun z : BW w5 => bw_cell (p := ⟨w1.heap.size, 2, none⟩) (lt_block X5.out) c2 z
          have z3 := fun z : BW w5 => bw_cell (p := ⟨w1.heap.size, 3, none⟩) (lt_block X5.out) c3 z
          have z4 := fun z : BW w5 => bw_cell (p := ⟨w1.heap.size, 4, none⟩) (lt_block X5.out) c4 z
          have z5 := fun z : BW w5 => bw_cell (p := ⟨w1.heap.size, 5, none⟩) (lt_block X5.out) c5 z
          clear GC hG hpo hfm hGv HR OKF OKC F1 F2 F3 F4 F5 G3 G4 G5 K4 HX X3 X4 H1 H2 H3 H4 HBX e
          go_wp2_with fail
          refine wp_region_bw (by kernel_rfl) (by kernel_rfl) ?_
          repeat (go_big_quiet_step (first | (go_at_call 18; with_reducible exact bw_of (EE.out _))))
          refine wpQuiet_nil ?_
          rintro _ ⟨z, rfl⟩
          have H6 : Hid (Below w.heap.size w z.v) := H5.out.trans (z.h.mono H5.out.size)
          clear z0 z1 z2 z3 z4 z5
          go_wp2_with fail
          go_ret
          exact ⟨rfl, H6.out⟩
        · have EE := hide (fun z : BW w5 => eqC_same (.slice (some ⟨gg, i * 4, none⟩) (G.length - i) (gc - i)) (.slice (some ⟨fb, foff + (i + 1) * 4, none⟩) (f.length - (i + 1)) (fc - (i + 1))) (f.drop (i + 1)) z.v (by
                have := (G5.out.keep z.h).drop i hal
                rw [hdd, Nat.zero_add] at this
                exact this) ((F5.out.keep z.h).drop (i + 1) hbl))
          have z0 := fun z : BW w5 => bw_cell (p := ⟨w1.heap.size, 0, none⟩) (lt_block X5.out) c0 z
          have z1 := fun z : BW w5 => bw_cell (p := ⟨w1.heap.size, 1, none⟩) (lt_block X5.out) c1 z
          have z2 := fun z : BW w5 => bw_cell (p := ⟨w1.heap.size, 2, none⟩) (lt_block X5.out) c2 z
          have z3 := fun z : BW w5 => bw_cell (p := ⟨w1.heap.size, 3, none⟩) (lt_block X5.out) c3 z
          have z4 := fun z : BW w5 => bw_cell (p := ⟨w1.heap.size, 4, none⟩) (lt_block X5.out) c4 z
          have z5 := fun z : BW w5 => bw_cell (p := ⟨w1.heap.size, 5, none⟩) (lt_block X5.out) c5 z
          clear GC hG hpo hfm hGv HR OKF OKC F1 F2 F3 F4 F5 G3 G4 G5 K4 HX X3 X4 H1 H2 H3 H4 HBX e
          go_wp2_with fail
          refine wp_region_bw (by kernel_rfl) (by kernel_rfl) ?_
          repeat (go_big_quiet_step (first | (go_at_call 18; with_reducible exact bw_of (EE.out _))))
          refine wpQuiet_nil ?_
          rintro _ ⟨z, rfl⟩
          have H6 : Hid (Below w.heap.size w z.v) := H5.out.trans (z.h.mono H5.out.size)
          clear z0 z1 z2 z3 z4 z5
          go_wp2_with fail
          go_ret
          exact ⟨rfl, H6.out⟩
    · rw [hk] at c0
      have hdd : G.drop (i + 1) = f.drop (i + 1) := by rw [hG.out, e, List.append_assoc]; exact drop_app f _ i 1 hil
      have hGl : G.length = f.length := by rw [hG.out, e]; simp; omega
      have hal : (i + 1) ≤ G.length := by omega
      have hbl : (i + 1) ≤ f.length := by omega
      have hw1 : IntKind.i64.wrap ((i : Int) + 1) = (i : Int) + 1 := by rw [IntKind.wrap_i64]; omega
      have htn : ((i : Int) + 1).toNat = i + 1 := by omega
      have q0 : (0 : Int) ≤ (i : Int) + 1 := by omega
      have q1 : (((i : Int) + 1)) ≤ (G.length : Int) := by omega
      have q2 : (((i : Int) + 1)) ≤ (f.length : Int) := by omega
      obtain ⟨fb, foff, fcc, hv1, -, -⟩ := F5.out.at (fmt_len2 hfm.out).1
      injection hv1 with hv1 hv2 hv3
      subst hv1; subst hv3
      have hix : i < G.length := by omega
      have hgi : G[i] = ⟨2, widV f[i].d⟩ := by
        have : G[i]? = some ⟨2, widV f[i].d⟩ := by rw [hG.out, e, List.append_assoc, List.getElem?_append_right (by simp; omega)]; simp [show i - min i f.length = 0 by omega]
        rw [List.getElem?_eq_getElem hix] at this
        injection this
      have hii : (i : Int) < (G.length : Int) := by omega
      have GC : Hid (∀ W, Below w5.heap.size w5 W → ∀ j u, (cEnc ⟨2, widV f[i].d⟩)[j]? = some u → W.cell? ⟨gg, i * 4 + j, none⟩ = some u) := by
        intro W hW j u hu
        rw [← hgi] at hu
        obtain ⟨a', cap', hv, -, -, -, hd⟩ := G5.out
        obtain ⟨b', off', he, hb, hc⟩ := hd.resolve_left (by intro h; rw [h] at hix; simp at hix)
        injection hv with h1 h2 h3
        subst h1
        injection he with he
        injection he with he1 he2 he3
        subst he1; subst he2
        have := hc i hix j u hu
        rw [Nat.zero_add] at this
        exact (hW.cell (p := ⟨gg, _, none⟩) hb).trans this
      clear hgi
      have HGL := hide hGl
      clear hGl
      by_cases hA : gc = (i + 1)
      · by_cases hB : fc = (i + 1)
        · have EE := hide (fun z : BW w5 => eqC_same (.slice (some ⟨gg, 0, none⟩) 0 0) (.slice (some ⟨fb, foff, none⟩) 0 0) (f.drop (i + 1)) z.v (by
                have := (G5.out.keep z.h).drop0 (i + 1) hal hA
                rw [show G.length - (i + 1) = 0 by omega, show gc - (i + 1) = 0 by omega, hdd] at this
                exact this) (by
                have := (F5.out.keep z.h).drop0 (i + 1) hbl hB
                rw [show f.length - (i + 1) = 0 by omega, show fc - (i + 1) = 0 by omega] at this
                exact this))
          clear hdd
          subst hA
          subst hB
          have z0 := fun z : BW w5 => bw_cell (p := ⟨w1.heap.size, 0, none⟩) (lt_block X5.out) c0 z
          have z1 := fun z : BW w5 => bw_cell (p := ⟨w1.heap.size, 1, none⟩) (lt_block X5.out) c1 z
          have z2 := fun z : BW w5 => bw_cell (p := ⟨w1.heap.size, 2, none⟩) (lt_block X5.out) c2 z
          have z3 := fun z : BW w5 => bw_cell (p := ⟨w1.heap.size, 3, none⟩) (lt_block X5.out) c3 z
          have z4 := fun z : BW w5 => bw_cell (p := ⟨w1.heap.size, 4, none⟩) (lt_block X5.out) c4 z
          have z5 := fun z : BW w5 => bw_cell (p := ⟨w1.heap.size, 5, none⟩) (lt_block X5.out) c5 z
          have y := fun z : BW w5 => at4 (GC.out z.v z.h)
          have y0 := fun z => (y z).1
          have y1 := fun z => (y z).2.1
          have y2 := fun z => (y z).2.2.1
          have y3 := fun z => (y z).2.2.2
          clear y
          clear GC hG hpo hfm hGv HR OKF OKC F1 F2 F3 F4 F5 G3 G4 G5 K4 HX X3 X4 H1 H2 H3 H4 HBX e
          go_wp2_with fail
          refine wp_region_bw (by kernel_rfl) (by kernel_rfl) ?_
          repeat (go_big_quiet_step (first | (go_at_call 18; with_reducible exact bw_of (EE.out _))))
          refine wpQuiet_nil ?_
          rintro _ ⟨z, rfl⟩
          have H6 : Hid (Below w.heap.size w z.v) := H5.out.trans (z.h.mono H5.out.size)
          clear z0 z1 z2 z3 z4 z5
          go_wp2_with fail
          go_ret
          exact ⟨rfl, H6.out⟩
        · have EE := hide (fun z : BW w5 => eqC_same (.slice (some ⟨gg, 0, none⟩) 0 0) (.slice (some ⟨fb, foff + (i + 1) * 4, none⟩) (f.length - (i + 1)) (fc - (i + 1))) (f.drop (i + 1)) z.v (by
                have := (G5.out.keep z.h).drop0 (i + 1) hal hA
                rw [show G.length - (i + 1) = 0 by omega, show gc - (i + 1) = 0 by omega, hdd] at this
                exact this) ((F5.out.keep z.h).drop (i + 1) hbl))
          clear hdd
          subst hA
          have z0 := fun z : BW w5 => bw_cell (p := ⟨w1.heap.size, 0, none⟩) (lt_block X5.out) c0 z
          have z1 := fun z : BW w5 => bw_cell (p := ⟨w1.heap.size, 1, none⟩) (lt_block X5.out) c1 z
          have z2 := fun z : BW w5 => bw_cell (p := ⟨w1.heap.size, 2, none⟩) (lt_block X5.out) c2 z
          have z3 := fun z : BW w5 => bw_cell (p := ⟨w1.heap.size, 3, none⟩) (lt_block X5.out) c3 z
          have z4 := fun z : BW w5 => bw_cell (p := ⟨w1.heap.size, 4, none⟩) (lt_block X5.out) c4 z
          have z5 := fun z : BW w5 => bw_cell (p := ⟨w1.heap.size, 5, none⟩) (lt_block X5.out) c5 z
          have y := fun z : BW w5 => at4 (GC.out z.v z.h)
          have y0 := fun z => (y z).1
          have y1 := fun z => (y z).2.1
          have y2 := fun z => (y z).2.2.1
          have y3 := fun z => (y z).2.2.2
          clear y
          clear GC hG hpo hfm hGv HR OKF OKC F1 F2 F3 F4 F5 G3 G4 G5 K4 HX X3 X4 H1 H2 H3 H4 HBX e
          go_wp2_with fail
          refine wp_region_bw (by kernel_rfl) (by kernel_rfl) ?_
          repeat (go_big_quiet_step (first | (go_at_call 18; with_reducible exact bw_of (EE.out _))))
          refine wpQuiet_nil ?_
          rintro _ ⟨z, rfl⟩
          have H6 : Hid (Below w.heap.size w z.v) := H5.out.trans (z.h.mono H5.out.size)
          clear z0 z1 z2 z3 z4 z5
          go_wp2_with fail
          go_ret
          exact ⟨rfl, H6.out⟩
      · by_cases hB : fc = (i + 1)
        · have EE := hide (fun z : BW w5 => eqC_same (.slice (some ⟨gg, (i + 1) * 4, none⟩) (G.length - (i + 1)) (gc - (i + 1))) (.slice (some ⟨fb, foff, none⟩) 0 0) (f.drop (i + 1)) z.v (by
                have := (G5.out.keep z.h).drop (i + 1) hal
                rw [hdd, Nat.zero_add] at this
                exact this) (by
                have := (F5.out.keep z.h).drop0 (i + 1) hbl hB
                rw [show f.length - (i + 1) = 0 by omega, show fc - (i + 1) = 0 by omega] at this
                exact this))
          subst hB
          have z0 := fun z : BW w5 => bw_cell (p := ⟨w1.heap.size, 0, none⟩) (lt_block X5.out) c0 z
          have z1 := fun z : BW w5 => bw_cell (p := ⟨w1.heap.size, 1, none⟩) (lt_block X5.out) c1 z
          have z2 := fun z : BW w5 => bw_cell (p := ⟨w1.heap.size, 2, none⟩) (lt_block X5.out) c2 z
          have z3 := fun z : BW w5 => bw_cell (p := ⟨w1.heap.size, 3, none⟩) (lt_block X5.out) c3 z
          have z4 := fun z : BW w5 => bw_cell (p := ⟨w1.heap.size, 4, none⟩) (lt_block X5.out) c4 z
          have z5 := fun z : BW w5 => bw_cell (p := ⟨w1.heap.size, 5, none⟩) (lt_block X5.out) c5 z
          have y := fun z : BW w5 => at4 (GC.out z.v z.h)
          have y0 := fun z => (y z).1
          have y1 := fun z => (y z).2.1
          have y2 := fun z => (y z).2.2.1
          have y3 := fun z => (y z).2.2.2
          clear y
          clear GC hG hpo hfm hGv HR OKF OKC F1 F2 F3 F4 F5 G3 G4 G5 K4 HX X3 X4 H1 H2 H3 H4 HBX e
          go_wp2_with fail
          refine wp_region_bw (by kernel_rfl) (by kernel_rfl) ?_
          repeat (go_big_quiet_step (first | (go_at_call 18; with_reducible exact bw_of (EE.out _))))
          refine wpQuiet_nil ?_
          rintro _ ⟨z, rfl⟩
          have H6 : Hid (Below w.heap.size w z.v) := H5.out.trans (z.h.mono H5.out.size)
          clear z0 z1 z2 z3 z4 z5
          go_wp2_with fail
          go_ret
          exact ⟨rfl, H6.out⟩
        · have EE := hide (fun z : BW w5 => eqC_same (.slice (some ⟨gg, (i + 1) * 4, none⟩) (G.length - (i + 1)) (gc - (i + 1))) (.slice (some ⟨fb, foff + (i + 1) * 4, none⟩) (f.length - (i + 1)) (fc - (i + 1))) (f.drop (i + 1)) z.v (by
                have := (G5.out.keep z.h).drop (i + 1) hal
                rw [hdd, Nat.zero_add] at this
                exact this) ((F5.out.keep z.h).drop (i + 1) hbl))
          have z0 := fun z : BW w5 => bw_cell (p := ⟨w1.heap.size, 0, none⟩) (lt_block X5.out) c0 z
          have z1 := fun z : BW w5 => bw_cell (p := ⟨w1.heap.size, 1, none⟩) (lt_block X5.out) c1 z
          have z2 := fun z : BW w5 => bw_cell (p := ⟨w1.heap.size, 2, none⟩) (lt_block X5.out) c2 z
          have z3 := fun z : BW w5 => bw_cell (p := ⟨w1.heap.size, 3, none⟩) (lt_block X5.out) c3 z
          have z4 := fun z : BW w5 => bw_cell (p := ⟨w1.heap.size, 4, none⟩) (lt_block X5.out) c4 z
          have z5 := fun z : BW w5 => bw_cell (p := ⟨w1.heap.size, 5, none⟩) (lt_block X5.out) c5 z
          have y := fun z : BW w5 => at4 (GC.out z.v z.h)
          have y0 := fun z => (y z).1
          have y1 := fun z => (y z).2.1
          have y2 := fun z => (y z).2.2.1
          have y3 := fun z => (y z).2.2.2
          clear y
          clear GC hG hpo hfm hGv HR OKF OKC F1 F2 F3 F4 F5 G3 G4 G5 K4 HX X3 X4 H1 H2 H3 H4 HBX e
          go_wp2_with fail
          refine wp_region_bw (by kernel_rfl) (by kernel_rfl) ?_
          repeat (go_big_quiet_step (first | (go_at_call 18; with_reducible exact bw_of (EE.out _))))
          refine wpQuiet_nil ?_
          rintro _ ⟨z, rfl⟩
          have H6 : Hid (Below w.heap.size w z.v) := H5.out.trans (z.h.mono H5.out.size)
          clear z0 z1 z2 z3 z4 z5
          go_wp2_with fail
          go_ret
          exact ⟨rfl, H6.out⟩
end Go.Proofs.YtdijcdadcbhipaaDoor
