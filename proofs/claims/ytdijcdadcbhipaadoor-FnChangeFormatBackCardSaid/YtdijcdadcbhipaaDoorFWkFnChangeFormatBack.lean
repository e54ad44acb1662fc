/-
  The walk of FnChangeFormatBack.
-/
import Derived.Test.YtdijcdadcbhipaaDoorFG7
import Derived.Test.YtdijcdadcbhipaaDoorFPl
import Derived.Test.YtdijcdadcbhipaaDoorFEq
import Derived.Test.YtdijcdadcbhipaaDoorFPl2
import Derived.RegionCalls
import Derived.Deep.RegionLaw
set_option linter.all false
namespace Go.Proofs.YtdijcdadcbhipaaDoor
open Go.RowKit
set_option maxHeartbeats 16000000 in
set_option maxRecDepth 100000 in
theorem fnChangeFormatBack_walk (v : Value) (w : World) (h : BytesAt w v) (ht : Tab w) :
    Calls Tryd.prog 4 #[v] w fun e w' => e = .returned (.bool true) ∧ Below w.heap.size w w' := by
  have HB := hide h
  obtain ⟨a, len, cap0, rfl, hlc, hcap0, -⟩ := h
  by_cases hlen : 1048576 < len
  · go_enter Tryd.func4, Tryd.ntmps4
    go_wp2_with fail
    go_ret
    exact ⟨rfl, Below.refl _ _⟩
  go_enter Tryd.func4, Tryd.ntmps4
  go_wp2_with fail
  with_reducible refine (drawChangeFormat_any _ _ HB.out).mono ?_
  rintro e w1 ⟨v1, f, c, rfl, ho1, hgf, hgc, hl6, hb1⟩
  have H1 := hide hb1
  have F1 := hide (OwnR.recs cEnc_len ho1)
  obtain ⟨fa, fc, rfl, hfc, hfc2⟩ := own_slc ho1
  have OKF : Hid (∀ x ∈ f, okC x) := fun x hx => genV_okC (hgf x hx)
  have OKC : Hid (okC c.c) := genV_okC hgc
  have HX := hide (blk_alloc w1 (.cells #[.int .i64 c.k, .int .i64 c.a, .int .i64 c.c.k, .int .i64 c.c.d.k, .int .i64 c.c.d.n, .string c.c.d.s] 29))
  have HBX := hide (below_box w1 (.cells #[.int .i64 c.k, .int .i64 c.a, .int .i64 c.c.k, .int .i64 c.c.d.k, .int .i64 c.c.d.n, .string c.c.d.s] 29))
  have H2 : Hid (Below w.heap.size w (w1.alloc (.cells #[.int .i64 c.k, .int .i64 c.a, .int .i64 c.c.k, .int .i64 c.c.d.k, .int .i64 c.c.d.n, .string c.c.d.s] 29))) := H1.out.trans (HBX.out.mono H1.out.size)
  have F2 := hide (F1.out.keep HBX.out)
  clear hb1 ho1 hgf hgc HB
  go_wp2_with fail
  with_reducible refine (iChange_any c _ f _ F2.out (ht.keep H2.out)).mono ?_
  rintro e w3 ⟨hb3, hq3⟩
  have H3 : Hid (Below w.heap.size w w3) := H2.out.trans (hb3.mono H2.out.size)
  have F3 := hide (F2.out.keep hb3)
  have X3 := hide (blk_own hb3 HX.out)
  clear hb3
  cases hR : chC f c with
  | none =>
    rw [hR] at hq3
    obtain rfl := hq3
    obtain ⟨⟨c0, c1, c2, c3, c4, c5⟩, -⟩ := cells6 X3.out
    have HR := hide hR
    clear hR
    go_wp2_with fail
    with_reducible refine (sChange_any c _ f _ F3.out OKF.out OKC.out).mono ?_
    rintro e w4 ⟨hb4, hq4⟩
    have H4 : Hid (Below w.heap.size w w4) := H3.out.trans (hb4.mono H3.out.size)
    rw [HR.out] at hq4
    obtain rfl := hq4
    have X4 := hide (blk_own hb4 X3.out)
    clear hb4 c0 c1 c2 c3 c4 c5
    go_wp2_with fail
    with_reducible refine (eqC_same _ _ [] _ (recs_nil _) (recs_nil _)).mono ?_
    rintro e w5 ⟨rfl, hb5⟩
    have H5 : Hid (Below w.heap.size w w5) := H4.out.trans (hb5.mono H4.out.size)
    clear hb5
    go_wp2_with fail
    with_reducible refine (eqC_same _ _ [] _ (recs_nil _) (recs_nil _)).mono ?_
    rintro e w6 ⟨rfl, hb6⟩
    have H6 : Hid (Below w.heap.size w w6) := H5.out.trans (hb6.mono H5.out.size)
    clear hb6
    go_wp2_with fail
    go_ret
    exact ⟨rfl, H6.out⟩
  | some G =>
    rw [hR] at hq3
    obtain ⟨v3, rfl, ho3⟩ := hq3
    have HR := hide hR
    have G3 := hide (OwnR.recs cEnc_len ho3)
    obtain ⟨qfm, qpo, qG⟩ := chC_some hR
    have hfm := hide qfm
    have hpo := hide qpo
    have hGv : Hid (fmtB G = true) := by unfold Hid; rw [qG]; exact fmt_new qfm qpo
    have hG := hide qG
    clear qfm qpo qG
    obtain ⟨gg, gc, rfl, hgg1, hgg2, hgg3, hgg4⟩ := OwnR.at ho3 (fmt_len2 hGv.out).1
    have hG5 := (fmt_len2 hGv.out).2.1
    obtain ⟨⟨c0, c1, c2, c3, c4, c5⟩, -⟩ := cells6 X3.out
    clear hR ho3
    go_wp2_with fail
    with_reducible refine (sChange_any c _ f _ F3.out OKF.out OKC.out).mono ?_
    rintro e w4 ⟨hb4, hq4⟩
    have H4 : Hid (Below w.heap.size w w4) := H3.out.trans (hb4.mono H3.out.size)
    rw [HR.out] at hq4
    obtain ⟨v4, rfl, ho4⟩ := hq4
    have F4 := hide (F3.out.keep hb4)
    have G4 := hide (G3.out.keep hb4)
    have K4 := hide (OwnR.recs cEnc_len ho4)
    have X4 := hide (blk_own hb4 X3.out)
    clear hb4 ho4 c0 c1 c2 c3 c4 c5
    go_wp2_with fail
    with_reducible refine (eqC_same _ _ G _ G4.out K4.out).mono ?_
    rintro e w5 ⟨rfl, hb5⟩
    have H5 : Hid (Below w.heap.size w w5) := H4.out.trans (hb5.mono H4.out.size)
    have F5 := hide (F4.out.keep hb5)
    have G5 := hide (G4.out.keep hb5)
    have X5 := hide (blk_own hb5 X4.out)
    obtain ⟨⟨c0, c1, c2, c3, c4, c5⟩, -⟩ := cells6 X5.out
    obtain ⟨i, hi, hil, hcase⟩ := pos_at hpo.out
    have hb5q := hide hb5
    clear hb5
    have K5 := hide (K4.out.keep (hb5q.out))
    rw [hi] at c1
    rcases hcase with ⟨hk, h5, hcc, e⟩ | ⟨hk, hlt, h2, e⟩ | ⟨hk, hlt, hk1, e⟩
    · rw [hk] at c0
      have hback := back_add hGv.out hfm.out hG.out e hil
      have HC := hide (fun W h t => iChange_lit 2 (i : Int) 0 0 0 ⟨#[]⟩ (.slice (some ⟨gg, 0, none⟩) G.length gc) G W h t)
      rw [hback] at HC
      have A5 := hide (below_box w5 (.cells #[.int .i64 2, .int .i64 (i : Int), .int .i64 0, .int .i64 0, .int .i64 0, .string ⟨#[]⟩] 29))
      have hlx : w1.heap.size < w5.heap.size := lt_block X5.out
      clear hback
      clear hG hpo hfm hGv HR OKF OKC F1 F2 F3 F4 G3 G4 K4 HX X3 X4 H1 H2 H3 H4 HBX
      go_wp2_with fail
      with_reducible refine (HC.out _ (G5.out.keep A5.out) (ht.keep (H5.out.trans (A5.out.mono H5.out.size)))).mono ?_
      rintro e w8 ⟨hb8, hq8⟩
      have H8 : Hid (Below w.heap.size w w8) := ((H5.out.trans (A5.out.mono H5.out.size))).trans (hb8.mono ((H5.out.trans (A5.out.mono H5.out.size))).size)
      obtain ⟨v8, rfl, ho8⟩ := hq8
      have F8 := hide ((F5.out.keep A5.out).keep hb8)
      have K8 := hide (OwnR.recs cEnc_len ho8)
      clear hb8 ho8
      go_wp2_with fail
      with_reducible refine (eqC_same _ _ f _ K8.out F8.out).mono ?_
      rintro e w9 ⟨rfl, hb9⟩
      have H9 : Hid (Below w.heap.size w w9) := H8.out.trans (hb9.mono H8.out.size)
      clear hb9
      go_wp2_with fail
      go_ret
      exact ⟨rfl, H9.out⟩
    · rw [hk] at c0
      have hback := back_drop hGv.out hfm.out hG.out e hlt h2
      obtain ⟨fb, foff, fcc, hv1, -, -⟩ := F5.out.at (by omega)
      injection hv1 with hv1 hv2 hv3
      subst hv1; subst hv3
      have HE5 : Hid (∀ W, Below w5.heap.size w5 W → ∀ j u, (cEnc f[i])[j]? = some u → W.cell? ⟨fb, foff + i * 4 + j, none⟩ = some u) := by
        intro W hW j u hu
        obtain ⟨a', cap', hv, -, -, -, hd⟩ := F5.out
        obtain ⟨b', off', he, hb, hc⟩ := hd.resolve_left (by rintro rfl; simp at hlt)
        injection hv with h1 h2 h3
        subst h1
        injection he with he
        injection he with he1 he2 he3
        subst he1; subst he2
        exact (hW.cell (p := ⟨fb, _, none⟩) hb).trans (hc i hlt j u hu)
      have HC := hide (fun W h t => iChange_lit 1 (i : Int) f[i].k f[i].d.k f[i].d.n f[i].d.s (.slice (some ⟨gg, 0, none⟩) G.length gc) G W h t)
      rw [hback] at HC
      have A5 := hide (below_box w5 (.cells #[.int .i64 2, .int .i64 (i : Int), .int .i64 0, .int .i64 0, .int .i64 0, .string ⟨#[]⟩] 29))
      have e5 := at4 (HE5.out _ A5.out)
      have c1' := Below.keep_cell c1 (.cells #[.int .i64 2, .int .i64 (i : Int), .int .i64 0, .int .i64 0, .int .i64 0, .string ⟨#[]⟩] 29)
      have B5 := hide (blk_alloc w5 (.cells #[.int .i64 2, .int .i64 (i : Int), .int .i64 0, .int .i64 0, .int .i64 0, .string ⟨#[]⟩] 29))
      have hlx : w1.heap.size < w5.heap.size := lt_block X5.out
      have hfb : fb < w5.heap.size := by have := lt_cell (HE5.out w5 (Below.refl _ _) 0 _ rfl); exact this
      have hii : (i : Int) < (f.length : Int) := by omega
      generalize f[i] = x at *
      obtain ⟨d0, d1, d2, d3⟩ := e5
      clear hback e
      clear hG HE5 hpo hfm hGv HR OKF OKC F1 F2 F3 F4 G3 G4 K4 HX X3 X4 H1 H2 H3 H4 HBX
      go_upto_region 10 with fail
      go_region_law (fail)
      all_goals
        have A6 : Hid (Below w5.heap.size w5 (w5.alloc (.cells #[.int .i64 1, .int .i64 (i : Int), .int .i64 x.k, .int .i64 x.d.k, .int .i64 x.d.n, .string x.d.s] 29)).drew) := (below_box w5 _).drew
        go_wp2_with fail
        with_reducible refine (HC.out _ (G5.out.keep A6.out) (ht.keep (H5.out.trans (A6.out.mono H5.out.size)))).mono ?_
        rintro e w8 ⟨hb8, hq8⟩
        have H8 : Hid (Below w.heap.size w w8) := ((H5.out.trans (A6.out.mono H5.out.size))).trans (hb8.mono ((H5.out.trans (A6.out.mono H5.out.size))).size)
        obtain ⟨v8, rfl, ho8⟩ := hq8
        have F8 := hide ((F5.out.keep A6.out).keep hb8)
        have K8 := hide (OwnR.recs cEnc_len ho8)
        clear hb8 ho8
        go_wp2_with fail
        with_reducible refine (eqC_same _ _ f _ K8.out F8.out).mono ?_
        rintro e w9 ⟨rfl, hb9⟩
        have H9 : Hid (Below w.heap.size w w9) := H8.out.trans (hb9.mono H8.out.size)
        clear hb9
        go_wp2_with fail
        go_ret
        exact ⟨rfl, H9.out⟩
    · rw [hk] at c0
      clear hG hpo hfm hGv HR OKF OKC F1 F2 F3 F4 G3 HX X3 X4 H1 H2 H3 H4 HBX
      have G6 := hide G5.out
      go_wp2_with fail
      with_reducible refine (eqC_same _ _ G _ G5.out K5.out).mono ?_
      rintro e w6 ⟨rfl, hb6⟩
      have H6 : Hid (Below w.heap.size w w6) := H5.out.trans (hb6.mono H5.out.size)
      clear hb6
      go_wp2_with fail
      go_ret
      exact ⟨rfl, H6.out⟩
end Go.Proofs.YtdijcdadcbhipaaDoor
