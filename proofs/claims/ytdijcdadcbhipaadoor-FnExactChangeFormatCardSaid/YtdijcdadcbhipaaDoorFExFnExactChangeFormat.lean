/-
  The walk of FnExactChangeFormat.
-/
import Derived.Test.YtdijcdadcbhipaaDoorFEx
set_option linter.all false
namespace Go.Proofs.YtdijcdadcbhipaaDoor
open Go.RowKit
set_option maxHeartbeats 16000000 in
set_option maxRecDepth 100000 in
theorem fnExactChangeFormat_walk (v : Value) (f : List RCol) (c : RChg) (w : World) (h : Recs cEnc 4 w v f) (ho : ∀ x ∈ f, okC x) (hoc : okH c) (ht : Tab w) :
    Calls Tryd.prog 6 #[v, (.agg #[.int .i64 c.k, .int .i64 c.a, .int .i64 c.c.k, .int .i64 c.c.d.k, .int .i64 c.c.d.n, .string c.c.d.s])] w fun e w' => e = .returned (.bool true) ∧ Below w.heap.size w w' := by
  have HF := hide h
  have OKF := hide ho
  have OKC : Hid (okC c.c) := hoc
  have OKH := hide hoc
  have B0 := hide (below_box w (.cells #[.int .i64 c.k, .int .i64 c.a, .int .i64 c.c.k, .int .i64 c.c.d.k, .int .i64 c.c.d.n, .string c.c.d.s] 42))
  have X0 := hide (blk_alloc w (.cells #[.int .i64 c.k, .int .i64 c.a, .int .i64 c.c.k, .int .i64 c.c.d.k, .int .i64 c.c.d.n, .string c.c.d.s] 42))
  obtain ⟨a, cap, rfl, hl, hcap⟩ := h.shape
  obtain ⟨R, hR⟩ : ∃ R, chC f c = R := ⟨_, rfl⟩
  obtain ⟨L, hL⟩ : ∃ L, resL R = L := ⟨_, rfl⟩
  obtain ⟨b, hb⟩ : ∃ b, R.isSome = b := ⟨_, rfl⟩
  have hL5 : L.length ≤ 5 := by rw [← hL, ← hR]; exact resL_len
  have hbb : (b != b) = false := by simp
  have HSC : Hid (∀ W v', Recs cEnc 4 W v' f → Calls Tryd.prog 17 #[v', (.agg #[.int .i64 c.k, .int .i64 c.a, .int .i64 c.c.k, .int .i64 c.c.d.k, .int .i64 c.c.d.n, .string c.c.d.s])] W fun e w' => ∃ u, e = .returned (.tuple #[u, .bool b]) ∧ OwnC W.heap.size w' u L ∧ Below W.heap.size W w') := fun W v' h' =>
    (sChange_any c v' f W h' OKF.out OKC.out).mono fun e w' hq => by
      rw [hR] at hq
      obtain ⟨u, h1, h2, h3⟩ := hq.uni
      rw [hb] at h1; rw [hL] at h2
      exact ⟨u, h1, h2, h3⟩
  have HIC : Hid (∀ W v', Recs cEnc 4 W v' f → Tab W → Calls Tryd.prog 16 #[v', (.agg #[.int .i64 c.k, .int .i64 c.a, .int .i64 c.c.k, .int .i64 c.c.d.k, .int .i64 c.c.d.n, .string c.c.d.s])] W fun e w' => ∃ u, e = .returned (.tuple #[u, .bool b]) ∧ OwnC W.heap.size w' u L ∧ Below W.heap.size W w') := fun W v' h' ht' =>
    (iChange_any c v' f W h' ht').mono fun e w' hq => by
      rw [hR] at hq
      obtain ⟨u, h1, h2, h3⟩ := hq.uni
      rw [hb] at h1; rw [hL] at h2
      exact ⟨u, h1, h2, h3⟩
  clear h ho hoc hR hL hb
  go_enter Tryd.func6, Tryd.ntmps6
  go_wp2_with fail
  with_reducible refine (szColumnS_any _ f 1048576 _ (HF.out.keep B0.out) OKF.out (by omega) (by omega)).mono ?_
  rintro e w1 ⟨r1, rfl, hr0, hr1, hrn, hb1⟩
  have H1 := hide (B0.out.trans (hb1.mono B0.out.size))
  have X1 := hide (blk_own hb1 X0.out)
  clear hb1 B0 X0
  by_cases hneg : r1 < 0
  · go_wp2_with fail
    go_ret
    exact ⟨rfl, H1.out⟩
  have hn : f.length ≤ 1048576 := by omega
  obtain ⟨⟨c0, c1, c2, c3, c4, c5⟩, -⟩ := cells6 X1.out
  go_wp2_with fail
  with_reducible refine (szChange_any c r1 _ OKH.out (by omega) (by omega)).mono ?_
  rintro e w2 ⟨r2, rfl, hr20, hr21, hb2⟩
  have H2 := hide (H1.out.trans (hb2.mono H1.out.size))
  have X2 := hide (blk_own hb2 X1.out)
  clear hb2 X1 H1 c0 c1 c2 c3 c4 c5
  by_cases hneg2 : r2 < 0
  · go_wp2_with fail
    go_ret
    exact ⟨rfl, H2.out⟩
  clear hrn hr0 hr1 hr20 hr21
  obtain ⟨⟨c0, c1, c2, c3, c4, c5⟩, -⟩ := cells6 X2.out
  have HXX : Hid (∀ W, Below w2.heap.size w2 W → W.heap[w.heap.size]? = some (.cells #[.int .i64 c.k, .int .i64 c.a, .int .i64 c.c.k, .int .i64 c.c.d.k, .int .i64 c.c.d.n, .string c.c.d.s] 42 (0, 0))) := fun W hW => blk_own hW X2.out
  have HTC : Hid (∀ W, Below w2.heap.size w2 W → Calls Tryd.prog 22 #[.slice a f.length cap] W fun e w' => ∃ u, e = .returned u ∧ OwnC w2.heap.size w' u f ∧ Below W.heap.size W w' ∧ Below w2.heap.size w2 w') := fun W hW =>
    (toColumnS_any _ f W (HF.out.keep (H2.out.trans (hW.mono H2.out.size))) hn).mono fun e w' ⟨u, h1, h2, h3, _⟩ => ⟨u, h1, OwnR.mono h2 hW.size, h3, hW.trans (h3.mono hW.size)⟩
  have HTH : Hid (∀ W, Below w2.heap.size w2 W → Calls Tryd.prog 23 #[(.agg #[.int .i64 c.k, .int .i64 c.a, .int .i64 c.c.k, .int .i64 c.c.d.k, .int .i64 c.c.d.n, .string c.c.d.s])] W fun e w' => e = .returned (.agg #[.int .i64 c.k, .int .i64 c.a, .int .i64 c.c.k, .int .i64 c.c.d.k, .int .i64 c.c.d.n, .string c.c.d.s]) ∧ Below W.heap.size W w' ∧ Below w2.heap.size w2 w') := fun W hW =>
    (toChange_any c W).mono fun e w' ⟨h1, h3⟩ => ⟨h1, h3, hW.trans (h3.mono hW.size)⟩
  go_upto_region 8 with fail
  go_cut [6, 7] (fun s6 s7 wx => s7 = .bool b ∧ OwnC w2.heap.size wx s6 L ∧ Below w2.heap.size w2 wx)
  case first =>
    go_region_law (first
      | (go_simp; go_at_call 22; (with_reducible refine (HTC.out _ (by first | exact (Below.refl _ _).drew | exact Below.refl _ _ | exact Z2.out | exact Z2.out.drew)).mono ?_); rintro e z1 ⟨u1, rfl, ho1, hb1, hz1⟩; (have Z1 := hide hz1); (have O1 := hide ho1); (obtain ⟨⟨p0, p1, p2, p3, p4, p5⟩, -⟩ := cells6 (HXX.out _ hz1)); clear ho1 hb1 hz1)
      | (go_simp; go_at_call 23; (with_reducible refine (HTH.out _ (by first | exact (Below.refl _ _).drew | exact Below.refl _ _ | exact Z1.out | exact Z1.out.drew)).mono ?_); rintro e z2 ⟨rfl, hb2, hz2⟩; (have Z2 := hide hz2); (try (have O2 := hide (OwnR.keep O1.out hb2))); clear hb2 hz2)
      | (go_simp; go_at_call 17; (with_reducible refine (HSC.out _ _ (by first | exact OwnR.recs cEnc_len O2.out | exact OwnR.recs cEnc_len O1.out)).mono ?_); rintro e z3 ⟨u3, rfl, ho3, hb3⟩; (have Z3 : Hid (Below w2.heap.size w2 z3) := by first | exact Z2.out.trans (hb3.mono Z2.out.size) | exact Z1.out.trans (hb3.mono Z1.out.size)); (have O3 : Hid (OwnC w2.heap.size z3 u3 L) := by first | exact OwnR.mono ho3 Z2.out.size | exact OwnR.mono ho3 Z1.out.size); clear ho3 hb3)
      | fail)
    all_goals
      go_wp2_with fail
      go_meet
      exact ⟨rfl, O3.out, Z3.out⟩
  case rest =>
    obtain ⟨rfl, ho6, hb6⟩ := hcut
    have W0 := hide ho6
    have H3 := hide (H2.out.trans (hb6.mono H2.out.size))
    have X3 := hide (blk_own hb6 X2.out)
    have S3 := hide hb6.size
    clear ho6 hb6 c0 c1 c2 c3 c4 c5 HTC HTH HXX
    obtain ⟨a6, cc6, rfl, -, -⟩ := own_slc W0.out
    go_wp2_with fail
    with_reducible refine (toColumnS_any _ f _ (HF.out.keep H3.out) hn).mono ?_
    rintro e w4 ⟨x0, rfl, hox, hb4, -⟩
    have T4 := hide hb4.size
    have H4 := hide (H3.out.trans (hb4.mono H3.out.size))
    have W4 := hide (OwnR.keep W0.out hb4)
    have X4 := hide (blk_own hb4 X3.out)
    have XO4 := hide hox
    have TW0 := hide (OwnR.top W0.out)
    clear hb4 hox W0 X3
    obtain ⟨⟨c0, c1, c2, c3, c4, c5⟩, -⟩ := cells6 X4.out
    go_wp2_with fail
    with_reducible refine (toChange_any c _).mono ?_
    rintro e w5 ⟨rfl, hb5⟩
    have H5 := hide (H4.out.trans (hb5.mono H4.out.size))
    have W5 := hide (OwnR.keep W4.out hb5)
    have X5 := hide (blk_own hb5 X4.out)
    have XO5 := hide (OwnR.keep XO4.out hb5)
    have T5 := hide hb5.size
    clear hb5 W4 X4 XO4 c0 c1 c2 c3 c4 c5
    go_wp2_with fail
    with_reducible refine (HIC.out _ _ (OwnR.recs cEnc_len XO5.out) (ht.keep H5.out)).mono ?_
    rintro e w6 ⟨g0, rfl, hog, hb6⟩
    have H6 := hide (H5.out.trans (hb6.mono H5.out.size))
    have W6 := hide (OwnR.keep W5.out hb6)
    have X6 := hide (blk_own hb6 X5.out)
    have XO6 := hide (OwnR.keep XO5.out hb6)
    have G6 := hide hog
    have TX := hide (OwnR.top XO5.out)
    obtain ⟨ag, cg, rfl, -, -⟩ := own_slc hog
    clear hb6 hog W5 X5 XO5
    go_wp2_with fail
    with_reducible refine (eqColumnS_same _ _ L _ (OwnC.recs G6.out) (OwnR.recs cEnc_len W6.out)).mono ?_
    rintro e w7 ⟨rfl, hb7⟩
    have H7 := hide (H6.out.trans (hb7.mono H6.out.size))
    have W7 := hide (OwnR.keep W6.out hb7)
    have X7 := hide (blk_own hb7 X6.out)
    have XO7 := hide (OwnR.keep XO6.out hb7)
    have G7 := hide (OwnR.keep G6.out hb7)
    clear hb7 W6 X6 XO6 G6
    go_wp2_with fail
    with_reducible refine (toColumnS_any _ f _ (HF.out.keep H7.out) hn).mono ?_
    rintro e w8 ⟨y0, rfl, hoy, hb8, -⟩
    have H8 := hide (H7.out.trans (hb8.mono H7.out.size))
    have W8 := hide (OwnR.keep W7.out hb8)
    have X8 := hide (blk_own hb8 X7.out)
    have XO8 := hide (OwnR.keep XO7.out hb8)
    have G8 := hide (OwnR.keep G7.out hb8)
    have Y8 := hide (OwnR.recs cEnc_len hoy)
    clear hb8 hoy W7 X7 XO7 G7
    go_wp2_with fail
    with_reducible refine (eqColumnS_same _ _ f _ (OwnR.recs cEnc_len XO8.out) Y8.out).mono ?_
    rintro e w9 ⟨rfl, hb9⟩
    have H9 := hide (H8.out.trans (hb9.mono H8.out.size))
    have W9 := hide (OwnR.keep W8.out hb9)
    have X9 := hide (blk_own hb9 X8.out)
    have XO9 := hide (OwnR.keep XO8.out hb9)
    have G9 := hide (OwnR.keep G8.out hb9)
    have SZ := hide (show w.heap.size ≤ wc.heap.size from H3.out.size)
    clear hb9 W8 X8 XO8 G8 Y8
    go_wp2_with fail
    with_reducible refine (markC_one 1 1 rfl _ _ f _ XO9.out (by omega) (by omega)).mono ?_
    rintro e w10 ⟨rfl, hg10, -⟩
    have BX := OwnR.base XO9.out
    have H10 : Hid (Below w.heap.size w w10) := below_own H9.out hg10 (fun j e => by have := BX j e; have := SZ.out; omega)
    have W10 : Hid (OwnC w2.heap.size w10 (.slice a6 L.length cc6) L) := OwnR.kept2 W9.out hg10 (fun j h1 h2 => by have := TW0.out j h1; have := BX j h2; omega)
    have BG := OwnR.base G9.out
    have G10 := hide (OwnR.kept2 G9.out hg10 (fun j h1 h2 => by have := TX.out j h2; have := BG j h1; omega))
    have X10 : Hid (w10.heap[w.heap.size]? = some (.cells #[.int .i64 c.k, .int .i64 c.a, .int .i64 c.c.k, .int .i64 c.c.d.k, .int .i64 c.c.d.n, .string c.c.d.s] 42 (0, 0))) := (hg10.block _ (lt_block X9.out) (fun e => by have := BX _ e.symm; have := SZ.out; have := S3.out; have := lt_block X2.out; omega)).trans X9.out
    have hm1 : ¬ ((1 : Int) + 4 * (f.length : Int) < 0) := by omega
    have hm2 : ((1 + 4 * f.length : Nat) : Int) = 1 + 4 * (f.length : Int) := by omega
    have hm3 : decide ((1 : Int) + 4 * (f.length : Int) < 0) = false := decide_eq_false hm1
    clear hg10 BX BG W9 X9 XO9 G9
    go_wp2_with fail
    with_reducible refine (eqColumnS_same _ _ L _ (OwnR.recs cEnc_len G10.out) (OwnC.recs W10.out)).mono ?_
    rintro e w11 ⟨rfl, hb11⟩
    have H11 := hide (H10.out.trans (hb11.mono H10.out.size))
    have W11 := hide (OwnC.keep W10.out hb11)
    have X11 := hide (blk_own hb11 X10.out)
    have G11 := hide (OwnR.keep G10.out hb11)
    clear hb11 W10 X10 G10
    go_wp2_with fail
    with_reducible refine (markC_one 1 1 rfl _ _ L _ G11.out (by omega) (by omega)).mono ?_
    rintro e w12 ⟨rfl, hg12, hm12⟩
    have BG := OwnR.base G11.out
    have S56 := hide (show wc.heap.size ≤ w5.heap.size by have := T4.out; have := T5.out; omega)
    have H12 : Hid (Below w.heap.size w w12) := below_own H11.out hg12 (fun j e => by have := BG j e; have := SZ.out; have := S56.out; omega)
    have W12 : Hid (OwnC w2.heap.size w12 (.slice a6 L.length cc6) L) := OwnR.kept2 W11.out hg12 (fun j h1 h2 => by have := TW0.out j h1; have := BG j h2; have := S56.out; omega)
    have X12 : Hid (w12.heap[w.heap.size]? = some (.cells #[.int .i64 c.k, .int .i64 c.a, .int .i64 c.c.k, .int .i64 c.c.d.k, .int .i64 c.c.d.n, .string c.c.d.s] 42 (0, 0))) := (hg12.block _ (lt_block X11.out) (fun e => by have := BG _ e.symm; have := SZ.out; have := S56.out; have := S3.out; have := lt_block X2.out; omega)).trans X11.out
    have M12 := hide hm12
    have hk1 : ((1 : Int) + 4 * (L.length : Int) != 1 + 4 * (L.length : Int)) = false := by simp
    have hk2 : ¬ ((1 : Int) + 4 * (L.length : Int) < 0) := by omega
    have hk3 : decide ((1 : Int) + 4 * (L.length : Int) < 0) = false := decide_eq_false hk2
    clear hg12 hm12 BG W11 X11 G11
    go_wp2_with fail
    with_reducible refine (heldC_one _ L.length _ (OwnR.recs cEnc_len M12.out) (by omega)).mono ?_
    rintro e w13 ⟨rfl, hb13⟩
    have H13 := hide (H12.out.trans (hb13.mono H12.out.size))
    have W13 := hide (OwnC.keep W12.out hb13)
    have X13 := hide (blk_own hb13 X12.out)
    have M13 := hide (OwnR.keep M12.out hb13)
    obtain ⟨⟨c0, c1, c2, c3, c4, c5⟩, -⟩ := cells6 X13.out
    clear hb13 W12 X12 M12
    have HXX : Hid (∀ W, Below w13.heap.size w13 W → W.heap[w.heap.size]? = some (.cells #[.int .i64 c.k, .int .i64 c.a, .int .i64 c.c.k, .int .i64 c.c.d.k, .int .i64 c.c.d.n, .string c.c.d.s] 42 (0, 0))) := fun W hW => blk_own hW X13.out
    have HTC : Hid (∀ W, Below w13.heap.size w13 W → Calls Tryd.prog 22 #[.slice a f.length cap] W fun e w' => ∃ u, e = .returned u ∧ OwnC w13.heap.size w' u f ∧ Below W.heap.size W w' ∧ Below w13.heap.size w13 w') := fun W hW =>
      (toColumnS_any _ f W (HF.out.keep (H13.out.trans (hW.mono H13.out.size))) hn).mono fun e w' ⟨u, h1, h2, h3, _⟩ => ⟨u, h1, OwnR.mono h2 hW.size, h3, hW.trans (h3.mono hW.size)⟩
    have HTH : Hid (∀ W, Below w13.heap.size w13 W → Calls Tryd.prog 23 #[(.agg #[.int .i64 c.k, .int .i64 c.a, .int .i64 c.c.k, .int .i64 c.c.d.k, .int .i64 c.c.d.n, .string c.c.d.s])] W fun e w' => e = .returned (.agg #[.int .i64 c.k, .int .i64 c.a, .int .i64 c.c.k, .int .i64 c.c.d.k, .int .i64 c.c.d.n, .string c.c.d.s]) ∧ Below W.heap.size W w' ∧ Below w13.heap.size w13 w') := fun W hW =>
      (toChange_any c W).mono fun e w' ⟨h1, h3⟩ => ⟨h1, h3, hW.trans (h3.mono hW.size)⟩
    have HIK : Hid (∀ W v', Below w13.heap.size w13 W → Recs cEnc 4 W v' f → Calls Tryd.prog 16 #[v', (.agg #[.int .i64 c.k, .int .i64 c.a, .int .i64 c.c.k, .int .i64 c.c.d.k, .int .i64 c.c.d.n, .string c.c.d.s])] W fun e w' => ∃ u, e = .returned (.tuple #[u, .bool b]) ∧ OwnC w13.heap.size w' u L ∧ Below w13.heap.size w13 w') := fun W v' hW hv =>
      (HIC.out W v' hv (ht.keep (H13.out.trans (hW.mono H13.out.size)))).mono fun e w' ⟨u, h1, h2, h3⟩ => ⟨u, h1, OwnR.mono h2 hW.size, hW.trans (h3.mono hW.size)⟩
    go_upto_region 27 with fail
    go_cut [14, 15] (fun s14 s15 wx => s15 = .bool b ∧ OwnC w13.heap.size wx s14 L ∧ Below w13.heap.size w13 wx)
    case first =>
      go_region_law (first
        | (go_simp; go_at_call 22; (with_reducible refine (HTC.out _ (by first | exact (Below.refl _ _).drew | exact Below.refl _ _ | exact Z2.out | exact Z2.out.drew)).mono ?_); rintro e z1 ⟨u1, rfl, ho1, hb1, hz1⟩; (have Z1 := hide hz1); (have O1 := hide ho1); (obtain ⟨⟨p0, p1, p2, p3, p4, p5⟩, -⟩ := cells6 (HXX.out _ hz1)); clear ho1 hb1 hz1)
        | (go_simp; go_at_call 23; (with_reducible refine (HTH.out _ (by first | exact (Below.refl _ _).drew | exact Below.refl _ _ | exact Z1.out | exact Z1.out.drew)).mono ?_); rintro e z2 ⟨rfl, hb2, hz2⟩; (have Z2 := hide hz2); (try (have O2 := hide (OwnR.keep O1.out hb2))); clear hb2 hz2)
        | (go_simp; go_at_call 16; (with_reducible refine (HIK.out _ _ (by first | exact Z2.out | exact Z1.out) (by first | exact OwnR.recs cEnc_len O2.out | exact OwnR.recs cEnc_len O1.out)).mono ?_); rintro e z3 ⟨u3, rfl, ho3, hz3⟩; (have Z3 := hide hz3); (have O3 := hide ho3); clear ho3 hz3)
        | fail)
      all_goals
        go_wp2_with fail
        go_meet
        exact ⟨rfl, O3.out, Z3.out⟩
    case rest =>
      obtain ⟨rfl, ho14, hb14⟩ := hcut
      have K14 := hide ho14
      obtain ⟨a14, c14, rfl, -, -⟩ := own_slc ho14
      have H14 := hide (H13.out.trans (hb14.mono H13.out.size))
      have W14 := hide (OwnC.keep W13.out hb14)
      have M14 := hide (OwnR.keep M13.out hb14)
      clear ho14 hb14 c0 c1 c2 c3 c4 c5 HTC HTH HXX HIK W13 X13 M13
      go_wp2_with fail
      with_reducible refine (eqColumnS_same _ _ L _ (OwnC.recs K14.out) (OwnC.recs W14.out)).mono ?_
      rintro e w15 ⟨rfl, hb15⟩
      have H15 := hide (H14.out.trans (hb15.mono H14.out.size))
      have M15 := hide (OwnR.keep M14.out hb15)
      clear hb15 K14 W14 M14
      go_wp2_with fail
      with_reducible refine (heldC_one _ L.length _ (OwnR.recs cEnc_len M15.out) (by omega)).mono ?_
      rintro e w16 ⟨rfl, hb16⟩
      have H16 := hide (H15.out.trans (hb16.mono H15.out.size))
      clear hb16 M15
      go_wp2_with fail
      go_ret
      exact ⟨rfl, H16.out⟩
end Go.Proofs.YtdijcdadcbhipaaDoor
