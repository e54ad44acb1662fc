/-
  The walk of FnChangeFormat.
-/
import Derived.Test.YtdijcdadcbhipaaDoorFG7
import Derived.Test.YtdijcdadcbhipaaDoorFPl
import Derived.Test.YtdijcdadcbhipaaDoorFEq
set_option linter.all false
namespace Go.Proofs.YtdijcdadcbhipaaDoor
open Go.RowKit
set_option maxHeartbeats 16000000 in
set_option maxRecDepth 100000 in
theorem fnChangeFormat_walk (v : Value) (w : World) (h : BytesAt w v) (ht : Tab w) :
    Calls Tryd.prog 3 #[v] w fun e w' => e = .returned (.bool true) ∧ Below w.heap.size w w' := by
  have HB := hide h
  obtain ⟨a, len, cap0, rfl, hlc, hcap0, -⟩ := h
  by_cases hlen : 1048576 < len
  · go_enter Tryd.func3, Tryd.ntmps3
    go_wp2_with fail
    go_ret
    exact ⟨rfl, Below.refl _ _⟩
  go_enter Tryd.func3, Tryd.ntmps3
  go_wp2_with fail
  with_reducible refine (drawChangeFormat_any _ _ HB.out).mono ?_
  rintro e w1 ⟨v1, f, c, rfl, ho1, hgf, hgc, hl6, hb1⟩
  have H1 := hide hb1
  have F1 := hide (OwnR.recs cEnc_len ho1)
  obtain ⟨fa, fc, rfl, hfc, hfc2⟩ := own_slc ho1
  have OKF : Hid (∀ x ∈ f, okC x) := fun x hx => genV_okC (hgf x hx)
  have OKC : Hid (okC c.c) := genV_okC hgc
  have HX := hide (blk_alloc w1 (.cells #[.int .i64 c.k, .int .i64 c.a, .int .i64 c.c.k, .int .i64 c.c.d.k, .int .i64 c.c.d.n, .string c.c.d.s] 29))
  have HBX := hide (below_box w1 (.cells #[.int .i64 c.k, .int .i64 c.a, .int .i64 c.c.k, .int .i64 c.c.d.k, .int .i64 c.c.d.n, .string c.c.d.s] 29))
  have H2 : Hid (Below w.heap.size w (w1.alloc (.cells #[.int .i64 c.k, .int .i64 c.a, .int .i64 c.c.k, .int .i64 c.c.d.k, .int .i64 c.c.d.n, .string c.c.d.s] 29))) := H1.out.trans (HBX.out.mono H1.out.size)
  have F2 := hide (F1.out.keep HBX.out)
  clear hb1 ho1 hgf hgc HB
  go_wp2_with fail
  with_reducible refine (iChange_any c _ f _ F2.out (ht.keep H2.out)).mono ?_
  rintro e w3 ⟨hb3, hq3⟩
  have H3 : Hid (Below w.heap.size w w3) := H2.out.trans (hb3.mono H2.out.size)
  have F3 := hide (F2.out.keep hb3)
  have X3 := hide (blk_own hb3 HX.out)
  clear hb3
  cases hR : chC f c with
  | none =>
    rw [hR] at hq3
    obtain rfl := hq3
    obtain ⟨⟨c0, c1, c2, c3, c4, c5⟩, -⟩ := cells6 X3.out
    have HR := hide hR
    clear hR
    go_wp2_with fail
    with_reducible refine (sChange_any c _ f _ F3.out OKF.out OKC.out).mono ?_
    rintro e w4 ⟨hb4, hq4⟩
    have H4 : Hid (Below w.heap.size w w4) := H3.out.trans (hb4.mono H3.out.size)
    rw [HR.out] at hq4
    obtain rfl := hq4
    have X4 := hide (blk_own hb4 X3.out)
    clear hb4 c0 c1 c2 c3 c4 c5
    go_wp2_with fail
    with_reducible refine (eqC_same _ _ [] _ (recs_nil _) (recs_nil _)).mono ?_
    rintro e w5 ⟨rfl, hb5⟩
    have H5 : Hid (Below w.heap.size w w5) := H4.out.trans (hb5.mono H4.out.size)
    clear hb5
    go_wp2_with fail
    with_reducible refine (eqC_same _ _ [] _ (recs_nil _) (recs_nil _)).mono ?_
    rintro e w6 ⟨rfl, hb6⟩
    have H6 : Hid (Below w.heap.size w w6) := H5.out.trans (hb6.mono H5.out.size)
    clear hb6
    go_wp2_with fail
    go_ret
    exact ⟨rfl, H6.out⟩
  | some G =>
    rw [hR] at hq3
    obtain ⟨v3, rfl, ho3⟩ := hq3
    have HR := hide hR
    have G3 := hide (OwnR.recs cEnc_len ho3)
    obtain ⟨qfm, qpo, qG⟩ := chC_some hR
    have hfm := hide qfm
    have hpo := hide qpo
    have hGv : Hid (fmtB G = true) := by unfold Hid; rw [qG]; exact fmt_new qfm qpo
    have hG := hide qG
    clear qfm qpo qG
    obtain ⟨gg, gc, rfl, hgg1, hgg2, hgg3, hgg4⟩ := OwnR.at ho3 (fmt_len2 hGv.out).1
    have hG5 := (fmt_len2 hGv.out).2.1
    obtain ⟨⟨c0, c1, c2, c3, c4, c5⟩, -⟩ := cells6 X3.out
    clear hR ho3
    go_wp2_with fail
    with_reducible refine (sChange_any c _ f _ F3.out OKF.out OKC.out).mono ?_
    rintro e w4 ⟨hb4, hq4⟩
    have H4 : Hid (Below w.heap.size w w4) := H3.out.trans (hb4.mono H3.out.size)
    rw [HR.out] at hq4
    obtain ⟨v4, rfl, ho4⟩ := hq4
    have F4 := hide (F3.out.keep hb4)
    have G4 := hide (G3.out.keep hb4)
    have K4 := hide (OwnR.recs cEnc_len ho4)
    have X4 := hide (blk_own hb4 X3.out)
    clear hb4 ho4 c0 c1 c2 c3 c4 c5
    go_wp2_with fail
    with_reducible refine (eqC_same _ _ G _ G4.out K4.out).mono ?_
    rintro e w5 ⟨rfl, hb5⟩
    have H5 : Hid (Below w.heap.size w w5) := H4.out.trans (hb5.mono H4.out.size)
    have F5 := hide (F4.out.keep hb5)
    have G5 := hide (G4.out.keep hb5)
    have X5 := hide (blk_own hb5 X4.out)
    obtain ⟨⟨c0, c1, c2, c3, c4, c5⟩, -⟩ := cells6 X5.out
    obtain ⟨i, hi, hil, hcase⟩ := pos_at hpo.out
    clear hb5
    rw [hi] at c1
    rcases hcase with ⟨hk, h5, hcc, e⟩ | ⟨hk, hlt, h2, e⟩ | ⟨hk, hlt, hk1, e⟩
    · rw [hk] at c0
      have hGt : G.take i = f.take i := by rw [hG.out, e]; rw [List.append_assoc]; exact take_app f _ i hil
      have hGl : (G.length : Int) = (f.length : Int) + (1) := by rw [hG.out, e]; simp; omega
      have hwl : IntKind.i64.wrap ((f.length : Int) + (1)) = (f.length : Int) + (1) := by rw [IntKind.wrap_i64]; omega
      have hgl1 : ((G.length : Int) == (f.length : Int) + (1)) = true := by simp [hGl]
      have hig : i ≤ gc := by omega
      have hif : i ≤ fc := by omega
      have V5 := fun z : BW w5 => ivalidFormat_any _ G z.v (G5.out.keep z.h)
      rw [hGv.out] at V5
      have E5 := fun z : BW w5 => eqC_same (.slice (some ⟨gg, 0, none⟩) i gc) (.slice fa i fc) (f.take i) z.v (by have := (G5.out.keep z.h).take i (by omega); rw [hGt] at this; exact this) ((F5.out.keep z.h).take i (by omega))
      have VV := hide V5
      have EE := hide E5
      have z1 := fun z : BW w5 => bw_cell (p := ⟨w1.heap.size, 1, none⟩) (lt_block X5.out) c1 z
      clear V5 E5 hG hGt hGl hpo hfm hGv HR OKF OKC F1 F2 F3 F4 F5 G3 G4 G5 K4 HX X3 X4 H1 H2 H3 H4 HBX
      go_wp2_with fail
      refine wp_region_bw (by kernel_rfl) (by kernel_rfl) ?_
      repeat (go_big_quiet_step (first | (go_at_call 19; with_reducible exact bw_of (VV.out _)) | (go_at_call 18; with_reducible exact bw_of (EE.out _))))
      refine wpQuiet_nil ?_
      rintro _ ⟨z, rfl⟩
      have H6 : Hid (Below w.heap.size w z.v) := H5.out.trans (z.h.mono H5.out.size)
      clear z1
      go_wp2_with fail
      go_ret
      exact ⟨rfl, H6.out⟩
    · rw [hk] at c0
      have hGt : G.take i = f.take i := by rw [hG.out, e]; exact take_app f _ i hil
      have hGl : (G.length : Int) = (f.length : Int) + (-1) := by rw [hG.out, e]; simp; omega
      have hwl : IntKind.i64.wrap ((f.length : Int) + (-1)) = (f.length : Int) + (-1) := by rw [IntKind.wrap_i64]; omega
      have hgl1 : ((G.length : Int) == (f.length : Int) + (-1)) = true := by simp [hGl]
      have hig : i ≤ gc := by omega
      have hif : i ≤ fc := by omega
      have V5 := fun z : BW w5 => ivalidFormat_any _ G z.v (G5.out.keep z.h)
      rw [hGv.out] at V5
      have E5 := fun z : BW w5 => eqC_same (.slice (some ⟨gg, 0, none⟩) i gc) (.slice fa i fc) (f.take i) z.v (by have := (G5.out.keep z.h).take i (by omega); rw [hGt] at this; exact this) ((F5.out.keep z.h).take i (by omega))
      have VV := hide V5
      have EE := hide E5
      have z1 := fun z : BW w5 => bw_cell (p := ⟨w1.heap.size, 1, none⟩) (lt_block X5.out) c1 z
      clear V5 E5 hG hGt hGl hpo hfm hGv HR OKF OKC F1 F2 F3 F4 F5 G3 G4 G5 K4 HX X3 X4 H1 H2 H3 H4 HBX
      go_wp2_with fail
      refine wp_region_bw (by kernel_rfl) (by kernel_rfl) ?_
      repeat (go_big_quiet_step (first | (go_at_call 19; with_reducible exact bw_of (VV.out _)) | (go_at_call 18; with_reducible exact bw_of (EE.out _))))
      refine wpQuiet_nil ?_
      rintro _ ⟨z, rfl⟩
      have H6 : Hid (Below w.heap.size w z.v) := H5.out.trans (z.h.mono H5.out.size)
      clear z1
      go_wp2_with fail
      go_ret
      exact ⟨rfl, H6.out⟩
    · rw [hk] at c0
      have hGt : G.take i = f.take i := by rw [hG.out, e]; rw [List.append_assoc]; exact take_app f _ i hil
      have hGl : (G.length : Int) = (f.length : Int) := by rw [hG.out, e]; simp; omega
      have hwl : IntKind.i64.wrap ((f.length : Int)) = (f.length : Int) := by rw [IntKind.wrap_i64]; omega
      have hgl1 : ((G.length : Int) == (f.length : Int)) = true := by simp [hGl]
      have hig : i ≤ gc := by omega
      have hif : i ≤ fc := by omega
      have V5 := fun z : BW w5 => ivalidFormat_any _ G z.v (G5.out.keep z.h)
      rw [hGv.out] at V5
      have E5 := fun z : BW w5 => eqC_same (.slice (some ⟨gg, 0, none⟩) i gc) (.slice fa i fc) (f.take i) z.v (by have := (G5.out.keep z.h).take i (by omega); rw [hGt] at this; exact this) ((F5.out.keep z.h).take i (by omega))
      have VV := hide V5
      have EE := hide E5
      have z1 := fun z : BW w5 => bw_cell (p := ⟨w1.heap.size, 1, none⟩) (lt_block X5.out) c1 z
      clear V5 E5 hG hGt hGl hpo hfm hGv HR OKF OKC F1 F2 F3 F4 F5 G3 G4 G5 K4 HX X3 X4 H1 H2 H3 H4 HBX
      go_wp2_with fail
      refine wp_region_bw (by kernel_rfl) (by kernel_rfl) ?_
      repeat (go_big_quiet_step (first | (go_at_call 19; with_reducible exact bw_of (VV.out _)) | (go_at_call 18; with_reducible exact bw_of (EE.out _))))
      refine wpQuiet_nil ?_
      rintro _ ⟨z, rfl⟩
      have H6 : Hid (Below w.heap.size w z.v) := H5.out.trans (z.h.mono H5.out.size)
      clear z1
      go_wp2_with fail
      go_ret
      exact ⟨rfl, H6.out⟩
end Go.Proofs.YtdijcdadcbhipaaDoor
