/-
  The walk of FnExactChangeRow.
-/
import Derived.Test.YtdijcdadcbhipaaDoorFEx
import Derived.Test.YtdijcdadcbhipaaDoorFSr
set_option linter.all false
namespace Go.Proofs.YtdijcdadcbhipaaDoor
open Go.RowKit
theorem RRet.uni {w w' : World} {o : Option (List RVal)} {e : Ending} (h : RRet w o e w') : ∃ v', e = .returned (.tuple #[v', .bool o.isSome]) ∧ OwnV w.heap.size w' v' (resL o) ∧ Below w.heap.size w w' := by
  obtain ⟨hb, hq⟩ := h
  cases o with
  | none => exact ⟨_, hq, World.ownsRow_nil _ _ _ _, hb⟩
  | some g =>
    obtain ⟨v', h1, h2⟩ := hq
    exact ⟨v', h1, h2, hb⟩
theorem OwnC.toR {B : Nat} {w : World} {v : Value} {l : List RCol} (h : OwnC B w v l) : OwnR cEnc 4 27 B w v l := h
theorem OwnV.toR {B : Nat} {w : World} {v : Value} {l : List RVal} (h : OwnV B w v l) : OwnR vEnc 3 25 B w v l := h
theorem resR_len {f : List RCol} {r : List RVal} {c : RChg} : (resL (chR f r c)).length ≤ 6 := by
  unfold resL
  cases h : chR f r c with
  | none => simp
  | some g =>
    unfold chR at h
    split at h
    · rename_i hh
      simp at hh
      injection h with h
      obtain ⟨h1, h5, -⟩ := fit_of hh.1
      subst h
      show (newR r c).length ≤ 6
      unfold newR
      split
      · simp; omega
      · split
        · simp; omega
        · simp; omega
    · cases h
set_option maxHeartbeats 32000000 in
set_option maxRecDepth 100000 in
theorem fnExactChangeRow_walk (v : Value) (f : List RCol) (u : Value) (r : List RVal) (c : RChg) (w : World) (h : Recs cEnc 4 w v f) (ho : ∀ x ∈ f, okC x) (h' : Recs vEnc 3 w u r) (hor : ∀ x ∈ r, okV x) (hoc : okH c) (ht : Tab w) :
    Calls Tryd.prog 10 #[v, u, (.agg #[.int .i64 c.k, .int .i64 c.a, .int .i64 c.c.k, .int .i64 c.c.d.k, .int .i64 c.c.d.n, .string c.c.d.s])] w fun e w' => e = .returned (.bool true) ∧ Below w.heap.size w w' := by
  have HF := hide h
  have HR := hide h'
  have OKF := hide ho
  have OKR := hide hor
  have OKC : Hid (okC c.c) := hoc
  have OKH := hide hoc
  have B0 := hide (below_box w (.cells #[.int .i64 c.k, .int .i64 c.a, .int .i64 c.c.k, .int .i64 c.c.d.k, .int .i64 c.c.d.n, .string c.c.d.s] 42))
  have X0 := hide (blk_alloc w (.cells #[.int .i64 c.k, .int .i64 c.a, .int .i64 c.c.k, .int .i64 c.c.d.k, .int .i64 c.c.d.n, .string c.c.d.s] 42))
  obtain ⟨a, cap, rfl, hl, hcap⟩ := h.shape
  obtain ⟨a2, cap2, rfl, hl2, hcap2⟩ := h'.shape
  obtain ⟨R, hR⟩ : ∃ R, chR f r c = R := ⟨_, rfl⟩
  obtain ⟨L, hL⟩ : ∃ L, resL R = L := ⟨_, rfl⟩
  obtain ⟨b, hb⟩ : ∃ b, R.isSome = b := ⟨_, rfl⟩
  have hL5 : L.length ≤ 6 := by rw [← hL, ← hR]; exact resR_len
  have hbb : (b != b) = false := by simp
  have HSC : Hid (∀ W v1 v2, Recs cEnc 4 W v1 f → Recs vEnc 3 W v2 r → Calls Tryd.prog 33 #[v1, v2, (.agg #[.int .i64 c.k, .int .i64 c.a, .int .i64 c.c.k, .int .i64 c.c.d.k, .int .i64 c.c.d.n, .string c.c.d.s])] W fun e w' => ∃ u, e = .returned (.tuple #[u, .bool b]) ∧ OwnV W.heap.size w' u L ∧ Below W.heap.size W w') := fun W v1 v2 h1 h2 =>
    (sRow_any c v1 v2 f r W h1 h2 OKF.out OKR.out OKC.out).mono fun e w' hq => by
      rw [hR] at hq
      obtain ⟨u, h1, h2, h3⟩ := hq.uni
      rw [hb] at h1; rw [hL] at h2
      exact ⟨u, h1, h2, h3⟩
  have HIC : Hid (∀ W v1 v2, Recs cEnc 4 W v1 f → Recs vEnc 3 W v2 r → Tab W → Calls Tryd.prog 32 #[v1, v2, (.agg #[.int .i64 c.k, .int .i64 c.a, .int .i64 c.c.k, .int .i64 c.c.d.k, .int .i64 c.c.d.n, .string c.c.d.s])] W fun e w' => ∃ u, e = .returned (.tuple #[u, .bool b]) ∧ OwnV W.heap.size w' u L ∧ Below W.heap.size W w') := fun W v1 v2 h1 h2 ht' =>
    (iRow_any c v1 v2 f r W h1 h2 ht').mono fun e w' hq => by
      rw [hR] at hq
      obtain ⟨u, h1, h2, h3⟩ := hq.uni
      rw [hb] at h1; rw [hL] at h2
      exact ⟨u, h1, h2, h3⟩
  clear h h' ho hor hoc hR hL hb
  go_enter Tryd.func10, Tryd.ntmps10
  go_wp2_with fail
  with_reducible refine (szColumnS_any _ f 1048576 _ (HF.out.keep B0.out) OKF.out (by omega) (by omega)).mono ?_
  rintro e w1 ⟨r1, rfl, hr0, hr1, hrn, hb1⟩
  have H1 := hide (B0.out.trans (hb1.mono B0.out.size))
  have X1 := hide (blk_own hb1 X0.out)
  clear hb1 B0 X0
  by_cases hneg : r1 < 0
  · go_wp2_with fail
    go_ret
    exact ⟨rfl, H1.out⟩
  have hn : f.length ≤ 1048576 := by omega
  have hsum0 : (f.length : Int) + 0 ≤ 1048576 := by omega
  go_wp2_with fail
  with_reducible refine (szValueS_any _ r r1 _ (HR.out.keep H1.out) OKR.out (by omega) (by omega)).mono ?_
  rintro e w1b ⟨r1b, rfl, hr0b, hr1b, hrnb, hb1b⟩
  have H1b := hide (H1.out.trans (hb1b.mono H1.out.size))
  have X1b := hide (blk_own hb1b X1.out)
  clear hb1b X1 H1
  by_cases hnegb : r1b < 0
  · go_wp2_with fail
    go_ret
    exact ⟨rfl, H1b.out⟩
  have hnr : r.length ≤ 1048576 := by omega
  obtain ⟨⟨c0, c1, c2, c3, c4, c5⟩, -⟩ := cells6 X1b.out
  go_wp2_with fail
  with_reducible refine (szChange_any c r1b _ OKH.out (by omega) (by omega)).mono ?_
  rintro e w2 ⟨r2, rfl, hr20, hr21, hb2⟩
  have H2 := hide (H1b.out.trans (hb2.mono H1b.out.size))
  have X2 := hide (blk_own hb2 X1b.out)
  clear hb2 X1b H1b c0 c1 c2 c3 c4 c5
  by_cases hneg2 : r2 < 0
  · go_wp2_with fail
    go_ret
    exact ⟨rfl, H2.out⟩
  clear hrn hr0 hr1 hr20 hr21 hrnb hr0b hr1b hsum0 hneg hnegb
  have HXX : Hid (∀ W, Below w2.heap.size w2 W → W.heap[w.heap.size]? = some (.cells #[.int .i64 c.k, .int .i64 c.a, .int .i64 c.c.k, .int .i64 c.c.d.k, .int .i64 c.c.d.n, .string c.c.d.s] 42 (0, 0))) := fun W hW => blk_own hW X2.out
  have HTC : Hid (∀ W, Below w2.heap.size w2 W → Calls Tryd.prog 22 #[.slice a f.length cap] W fun e w' => ∃ u, e = .returned u ∧ OwnC w2.heap.size w' u f ∧ Below W.heap.size W w' ∧ Below w2.heap.size w2 w') := fun W hW =>
    (toColumnS_any _ f W (HF.out.keep (H2.out.trans (hW.mono H2.out.size))) hn).mono fun e w' ⟨u, h1, h2, h3, _⟩ => ⟨u, h1, OwnR.mono h2 hW.size, h3, hW.trans (h3.mono hW.size)⟩
  have HTV : Hid (∀ W, Below w2.heap.size w2 W → Calls Tryd.prog 37 #[.slice a2 r.length cap2] W fun e w' => ∃ u, e = .returned u ∧ OwnV w2.heap.size w' u r ∧ Below W.heap.size W w' ∧ Below w2.heap.size w2 w') := fun W hW =>
    (toValueS_any _ r W (HR.out.keep (H2.out.trans (hW.mono H2.out.size))) hnr).mono fun e w' ⟨u, h1, h2, h3, _⟩ => ⟨u, h1, OwnR.mono h2 hW.size, h3, hW.trans (h3.mono hW.size)⟩
  have HTH : Hid (∀ W, Below w2.heap.size w2 W → Calls Tryd.prog 23 #[(.agg #[.int .i64 c.k, .int .i64 c.a, .int .i64 c.c.k, .int .i64 c.c.d.k, .int .i64 c.c.d.n, .string c.c.d.s])] W fun e w' => e = .returned (.agg #[.int .i64 c.k, .int .i64 c.a, .int .i64 c.c.k, .int .i64 c.c.d.k, .int .i64 c.c.d.n, .string c.c.d.s]) ∧ Below W.heap.size W w' ∧ Below w2.heap.size w2 w') := fun W hW =>
    (toChange_any c W).mono fun e w' ⟨h1, h3⟩ => ⟨h1, h3, hW.trans (h3.mono hW.size)⟩
  have HCC : Hid (∀ W v1 v2, Below w2.heap.size w2 W → OwnC w2.heap.size W v1 f → OwnV w2.heap.size W v2 r → Calls Tryd.prog 33 #[v1, v2, (.agg #[.int .i64 c.k, .int .i64 c.a, .int .i64 c.c.k, .int .i64 c.c.d.k, .int .i64 c.c.d.n, .string c.c.d.s])] W fun e w' => ∃ u, e = .returned (.tuple #[u, .bool b]) ∧ OwnV w2.heap.size w' u L ∧ Below w2.heap.size w2 w') := fun W v1 v2 hW h1 h2 =>
    (HSC.out W v1 v2 (OwnC.recs h1) (OwnV.recs h2)).mono fun e w' ⟨u, q1, q2, q3⟩ => ⟨u, q1, OwnR.mono q2 hW.size, hW.trans (q3.mono hW.size)⟩
  have ZC := hide (Below.refl w2.heap.size w2)
  obtain ⟨⟨c0, c1, c2, c3, c4, c5⟩, -⟩ := cells6 X2.out
  go_upto_region 11 with fail
  go_cut [8, 9] (fun s8 s9 wx => s9 = .bool b ∧ OwnV w2.heap.size wx s8 L ∧ Below w2.heap.size w2 wx)
  case first =>
    go_region_law (first
      | (go_simp; go_at_call 22; (with_reducible refine (HTC.out _ (by first | exact ZC.out | exact ZC.out.drew)).mono ?_); rintro e z1 ⟨u1, rfl, ho1, hb1, hz1⟩; (try replace OV := hide (OwnV.keep OV.out hb1)); (have OC := hide ho1); (replace ZC := hide hz1); (obtain ⟨⟨p0, p1, p2, p3, p4, p5⟩, -⟩ := cells6 (HXX.out _ hz1)); clear ho1 hb1 hz1)
      | (go_simp; go_at_call 37; (with_reducible refine (HTV.out _ (by first | exact ZC.out | exact ZC.out.drew)).mono ?_); rintro e z2 ⟨u2, rfl, ho2, hb2, hz2⟩; (try replace OC := hide (OwnC.keep OC.out hb2)); (have OV := hide ho2); (replace ZC := hide hz2); (obtain ⟨⟨q0, q1, q2, q3, q4, q5⟩, -⟩ := cells6 (HXX.out _ hz2)); clear ho2 hb2 hz2)
      | (go_simp; go_at_call 23; (with_reducible refine (HTH.out _ (by first | exact ZC.out | exact ZC.out.drew)).mono ?_); rintro e z3 ⟨rfl, hb3, hz3⟩; (try replace OC := hide (OwnC.keep OC.out hb3)); (try replace OV := hide (OwnV.keep OV.out hb3)); (replace ZC := hide hz3); clear hb3 hz3)
      | (go_simp; go_at_call 33; (with_reducible refine (HCC.out _ _ _ ZC.out OC.out OV.out).mono ?_); rintro e z4 ⟨u4, rfl, ho4, hz4⟩; (have ZF := hide hz4); (have OF := hide ho4); clear ho4 hz4)
      | fail)
    all_goals
      go_wp2_with fail
      go_meet
      exact ⟨rfl, OF.out, ZF.out⟩
  case rest =>
    obtain ⟨rfl, ho6, hb6⟩ := hcut
    have W3 := hide ho6
    have H3 := hide (H2.out.trans (hb6.mono H2.out.size))
    have X3 := hide (blk_own hb6 X2.out)
    have SX := hide (lt_block X2.out)
    have SC := hide hb6.size
    have TW := hide (OwnR.top ho6)
    obtain ⟨a6, cc6, rfl, -, -⟩ := own_slc ho6
    clear ho6 hb6 c0 c1 c2 c3 c4 c5 HTC HTV HTH HXX HCC ZC X2
    go_wp2_with fail
    with_reducible refine (toColumnS_any _ f _ (HF.out.keep H3.out) hn).mono ?_
    rintro e w4 ⟨x0, rfl, hox, hb4, -⟩
    have H4 := hide (H3.out.trans (hb4.mono H3.out.size))
    have W4 := hide (OwnV.keep W3.out hb4)
    have X4 := hide (blk_own hb4 X3.out)
    have XC4 : Hid (OwnC wc.heap.size w4 x0 f) := hox
    have T4 := hide hb4.size
    clear hox
    clear W3 X3
    clear hb4
    go_wp2_with fail
    with_reducible refine (toValueS_any _ r _ (HR.out.keep H4.out) hnr).mono ?_
    rintro e w5 ⟨x1, rfl, hox, hb5, -⟩
    have H5 := hide (H4.out.trans (hb5.mono H4.out.size))
    have W5 := hide (OwnV.keep W4.out hb5)
    have X5 := hide (blk_own hb5 X4.out)
    have XC5 := hide (OwnC.keep XC4.out hb5)
    have XV5 : Hid (OwnV w4.heap.size w5 x1 r) := hox
    have T5 := hide hb5.size
    have TC := hide (OwnR.top XC4.out)
    clear hox
    clear W4 X4 XC4
    clear hb5
    obtain ⟨⟨c0, c1, c2, c3, c4, c5⟩, -⟩ := cells6 X5.out
    go_wp2_with fail
    with_reducible refine (toChange_any c _).mono ?_
    rintro e w6 ⟨rfl, hb6⟩
    have H6 := hide (H5.out.trans (hb6.mono H5.out.size))
    have W6 := hide (OwnV.keep W5.out hb6)
    have X6 := hide (blk_own hb6 X5.out)
    have XC6 := hide (OwnC.keep XC5.out hb6)
    have XV6 := hide (OwnV.keep XV5.out hb6)
    have T6 := hide hb6.size
    clear c0 c1 c2 c3 c4 c5
    clear W5 X5 XC5 XV5
    clear hb6
    go_wp2_with fail
    with_reducible refine (HIC.out _ _ _ (OwnC.recs XC6.out) (OwnV.recs XV6.out) (ht.keep H6.out)).mono ?_
    rintro e w7 ⟨g0, rfl, hog, hb7⟩
    have H7 := hide (H6.out.trans (hb7.mono H6.out.size))
    have W7 := hide (OwnV.keep W6.out hb7)
    have X7 := hide (blk_own hb7 X6.out)
    have XC7 := hide (OwnC.keep XC6.out hb7)
    have XV7 := hide (OwnV.keep XV6.out hb7)
    have G7 := hide hog
    have TV := hide (OwnR.top XV6.out)
    obtain ⟨ag, cg, rfl, -, -⟩ := own_slc hog
    clear hog
    clear W6 X6 XC6 XV6
    clear hb7
    go_wp2_with fail
    with_reducible refine (eqValueS_same _ _ L _ (OwnV.recs G7.out) (OwnV.recs W7.out)).mono ?_
    rintro e w8 ⟨rfl, hb8⟩
    have H8 := hide (H7.out.trans (hb8.mono H7.out.size))
    have W8 := hide (OwnV.keep W7.out hb8)
    have X8 := hide (blk_own hb8 X7.out)
    have XC8 := hide (OwnC.keep XC7.out hb8)
    have XV8 := hide (OwnV.keep XV7.out hb8)
    have G8 := hide (OwnV.keep G7.out hb8)
    clear W7 X7 XC7 XV7 G7
    clear hb8
    go_wp2_with fail
    with_reducible refine (toColumnS_any _ f _ (HF.out.keep H8.out) hn).mono ?_
    rintro e w9 ⟨y0, rfl, hoy, hb9, -⟩
    have H9 := hide (H8.out.trans (hb9.mono H8.out.size))
    have W9 := hide (OwnV.keep W8.out hb9)
    have X9 := hide (blk_own hb9 X8.out)
    have XC9 := hide (OwnC.keep XC8.out hb9)
    have XV9 := hide (OwnV.keep XV8.out hb9)
    have G9 := hide (OwnV.keep G8.out hb9)
    have Y9 := hide (OwnR.recs cEnc_len hoy)
    clear hoy
    clear W8 X8 XC8 XV8 G8
    clear hb9
    go_wp2_with fail
    with_reducible refine (eqColumnS_same _ _ f _ (OwnC.recs XC9.out) Y9.out).mono ?_
    rintro e w10 ⟨rfl, hb10⟩
    have H10 := hide (H9.out.trans (hb10.mono H9.out.size))
    have W10 := hide (OwnV.keep W9.out hb10)
    have X10 := hide (blk_own hb10 X9.out)
    have XC10 := hide (OwnC.keep XC9.out hb10)
    have XV10 := hide (OwnV.keep XV9.out hb10)
    have G10 := hide (OwnV.keep G9.out hb10)
    clear Y9
    clear W9 X9 XC9 XV9 G9
    clear hb10
    go_wp2_with fail
    with_reducible refine (toValueS_any _ r _ (HR.out.keep H10.out) hnr).mono ?_
    rintro e w11 ⟨y1, rfl, hoy, hb11, -⟩
    have H11 := hide (H10.out.trans (hb11.mono H10.out.size))
    have W11 := hide (OwnV.keep W10.out hb11)
    have X11 := hide (blk_own hb11 X10.out)
    have XC11 := hide (OwnC.keep XC10.out hb11)
    have XV11 := hide (OwnV.keep XV10.out hb11)
    have G11 := hide (OwnV.keep G10.out hb11)
    have Y11 := hide (OwnR.recs vEnc_len hoy)
    clear hoy
    clear W10 X10 XC10 XV10 G10
    clear hb11
    go_wp2_with fail
    with_reducible refine (eqValueS_same _ _ r _ (OwnV.recs XV11.out) Y11.out).mono ?_
    rintro e w12 ⟨rfl, hb12⟩
    have H12 := hide (H11.out.trans (hb12.mono H11.out.size))
    have W12 := hide (OwnV.keep W11.out hb12)
    have X12 := hide (blk_own hb12 X11.out)
    have XC12 := hide (OwnC.keep XC11.out hb12)
    have XV12 := hide (OwnV.keep XV11.out hb12)
    have G12 := hide (OwnV.keep G11.out hb12)
    clear Y11
    clear W11 X11 XC11 XV11 G11
    clear hb12
    have BC := hide (OwnR.base XC12.out)
    have BV := hide (OwnR.base XV12.out)
    have BG := hide (OwnR.base G12.out)
    have S3 := hide (show w.heap.size ≤ wc.heap.size from H3.out.size)
    go_wp2_with fail
    with_reducible refine (markC_one 1 1 rfl _ _ f _ (OwnC.toR XC12.out) (by omega) (by omega)).mono ?_
    rintro e w13 ⟨rfl, hg13, -⟩
    have H13 : Hid (Below w.heap.size w w13) := below_own H12.out hg13 (fun j e => by have := BC.out j e; have := S3.out; omega)
    have W13 : Hid (OwnV w2.heap.size w13 (.slice a6 L.length cc6) L) := OwnR.kept2 W12.out hg13 (fun j h1 h2 => by have := TW.out j h1; have := BC.out j h2; omega)
    have XV13 : Hid (OwnV w4.heap.size w13 x1 r) := OwnR.kept2 XV12.out hg13 (fun j h1 h2 => by have := TC.out j h2; have := BV.out j h1; omega)
    have G13 : Hid (OwnV w6.heap.size w13 (.slice ag L.length cg) L) := OwnR.kept2 G12.out hg13 (fun j h1 h2 => by have := TC.out j h2; have := BG.out j h1; have := T5.out; have := T6.out; omega)
    have X13 : Hid (w13.heap[w.heap.size]? = some (.cells #[.int .i64 c.k, .int .i64 c.a, .int .i64 c.c.k, .int .i64 c.c.d.k, .int .i64 c.c.d.n, .string c.c.d.s] 42 (0, 0))) := (hg13.block _ (lt_block X12.out) (fun e => by have := BC.out _ e.symm; have := SC.out; have := SX.out; omega)).trans X12.out
    clear hg13 W12 XV12 G12 X12 XC12
    go_wp2_with fail
    with_reducible refine (markV_one (1 + 4 * (f.length : Int)) (1 + 4 * f.length) (by omega) _ _ r _ (OwnV.toR XV13.out) (by omega) (by omega)).mono ?_
    rintro e w14 ⟨rfl, hg14, -⟩
    have H14 : Hid (Below w.heap.size w w14) := below_own H13.out hg14 (fun j e => by have := BV.out j e; have := S3.out; have := T4.out; omega)
    have W14 : Hid (OwnV w2.heap.size w14 (.slice a6 L.length cc6) L) := OwnR.kept2 W13.out hg14 (fun j h1 h2 => by have := TW.out j h1; have := BV.out j h2; have := T4.out; omega)
    have G14 : Hid (OwnV w6.heap.size w14 (.slice ag L.length cg) L) := OwnR.kept2 G13.out hg14 (fun j h1 h2 => by have := TV.out j h2; have := BG.out j h1; omega)
    have X14 : Hid (w14.heap[w.heap.size]? = some (.cells #[.int .i64 c.k, .int .i64 c.a, .int .i64 c.c.k, .int .i64 c.c.d.k, .int .i64 c.c.d.n, .string c.c.d.s] 42 (0, 0))) := (hg14.block _ (lt_block X13.out) (fun e => by have := BV.out _ e.symm; have := SC.out; have := SX.out; have := T4.out; omega)).trans X13.out
    have hm1 : ¬ ((1 : Int) + 4 * (f.length : Int) + 3 * (r.length : Int) < 0) := by omega
    have hm3 : decide ((1 : Int) + 4 * (f.length : Int) + 3 * (r.length : Int) < 0) = false := decide_eq_false hm1
    clear hg14 W13 XV13 G13 X13
    go_wp2_with fail
    with_reducible refine (eqValueS_same _ _ L _ (OwnV.recs G14.out) (OwnV.recs W14.out)).mono ?_
    rintro e w15 ⟨rfl, hb15⟩
    have H15 := hide (H14.out.trans (hb15.mono H14.out.size))
    have W15 := hide (OwnV.keep W14.out hb15)
    have X15 := hide (blk_own hb15 X14.out)
    have G15 := hide (OwnV.keep G14.out hb15)
    clear W14 X14 G14
    clear hb15
    go_wp2_with fail
    with_reducible refine (markV_one 1 1 rfl _ _ L _ (OwnV.toR G15.out) (by omega) (by omega)).mono ?_
    rintro e w16 ⟨rfl, hg16, hm16⟩
    have H16 : Hid (Below w.heap.size w w16) := below_own H15.out hg16 (fun j e => by have := BG.out j e; have := S3.out; have := T4.out; have := T5.out; have := T6.out; omega)
    have W16 : Hid (OwnV w2.heap.size w16 (.slice a6 L.length cc6) L) := OwnR.kept2 W15.out hg16 (fun j h1 h2 => by have := TW.out j h1; have := BG.out j h2; have := T4.out; have := T5.out; have := T6.out; omega)
    have X16 : Hid (w16.heap[w.heap.size]? = some (.cells #[.int .i64 c.k, .int .i64 c.a, .int .i64 c.c.k, .int .i64 c.c.d.k, .int .i64 c.c.d.n, .string c.c.d.s] 42 (0, 0))) := (hg16.block _ (lt_block X15.out) (fun e => by have := BG.out _ e.symm; have := SC.out; have := SX.out; have := T4.out; have := T5.out; have := T6.out; omega)).trans X15.out
    have M16 : Hid (OwnV w6.heap.size w16 (.slice ag L.length cg) (markV 1 L.length)) := hm16
    have hk1 : ((1 : Int) + 3 * (L.length : Int) != 1 + 3 * (L.length : Int)) = false := by simp
    have hk2 : ¬ ((1 : Int) + 3 * (L.length : Int) < 0) := by omega
    have hk3 : decide ((1 : Int) + 3 * (L.length : Int) < 0) = false := decide_eq_false hk2
    clear hg16 hm16 W15 X15 G15
    go_wp2_with fail
    with_reducible refine (heldV_one _ L.length _ (OwnV.recs M16.out) (by omega)).mono ?_
    rintro e w17 ⟨rfl, hb17⟩
    have H17 := hide (H16.out.trans (hb17.mono H16.out.size))
    have W17 := hide (OwnV.keep W16.out hb17)
    have X17 := hide (blk_own hb17 X16.out)
    have M17 := hide (OwnV.keep M16.out hb17)
    clear W16 X16 M16
    clear hb17
    have HXX : Hid (∀ W, Below w17.heap.size w17 W → W.heap[w.heap.size]? = some (.cells #[.int .i64 c.k, .int .i64 c.a, .int .i64 c.c.k, .int .i64 c.c.d.k, .int .i64 c.c.d.n, .string c.c.d.s] 42 (0, 0))) := fun W hW => blk_own hW X17.out
    have HTC : Hid (∀ W, Below w17.heap.size w17 W → Calls Tryd.prog 22 #[.slice a f.length cap] W fun e w' => ∃ u, e = .returned u ∧ OwnC w17.heap.size w' u f ∧ Below W.heap.size W w' ∧ Below w17.heap.size w17 w') := fun W hW =>
      (toColumnS_any _ f W (HF.out.keep (H17.out.trans (hW.mono H17.out.size))) hn).mono fun e w' ⟨u, h1, h2, h3, _⟩ => ⟨u, h1, OwnR.mono h2 hW.size, h3, hW.trans (h3.mono hW.size)⟩
    have HTV : Hid (∀ W, Below w17.heap.size w17 W → Calls Tryd.prog 37 #[.slice a2 r.length cap2] W fun e w' => ∃ u, e = .returned u ∧ OwnV w17.heap.size w' u r ∧ Below W.heap.size W w' ∧ Below w17.heap.size w17 w') := fun W hW =>
      (toValueS_any _ r W (HR.out.keep (H17.out.trans (hW.mono H17.out.size))) hnr).mono fun e w' ⟨u, h1, h2, h3, _⟩ => ⟨u, h1, OwnR.mono h2 hW.size, h3, hW.trans (h3.mono hW.size)⟩
    have HTH : Hid (∀ W, Below w17.heap.size w17 W → Calls Tryd.prog 23 #[(.agg #[.int .i64 c.k, .int .i64 c.a, .int .i64 c.c.k, .int .i64 c.c.d.k, .int .i64 c.c.d.n, .string c.c.d.s])] W fun e w' => e = .returned (.agg #[.int .i64 c.k, .int .i64 c.a, .int .i64 c.c.k, .int .i64 c.c.d.k, .int .i64 c.c.d.n, .string c.c.d.s]) ∧ Below W.heap.size W w' ∧ Below w17.heap.size w17 w') := fun W hW =>
      (toChange_any c W).mono fun e w' ⟨h1, h3⟩ => ⟨h1, h3, hW.trans (h3.mono hW.size)⟩
    have HCC : Hid (∀ W v1 v2, Below w17.heap.size w17 W → OwnC w17.heap.size W v1 f → OwnV w17.heap.size W v2 r → Calls Tryd.prog 32 #[v1, v2, (.agg #[.int .i64 c.k, .int .i64 c.a, .int .i64 c.c.k, .int .i64 c.c.d.k, .int .i64 c.c.d.n, .string c.c.d.s])] W fun e w' => ∃ u, e = .returned (.tuple #[u, .bool b]) ∧ OwnV w17.heap.size w' u L ∧ Below w17.heap.size w17 w') := fun W v1 v2 hW h1 h2 =>
      (HIC.out W v1 v2 (OwnC.recs h1) (OwnV.recs h2) (ht.keep (H17.out.trans (hW.mono H17.out.size)))).mono fun e w' ⟨u, q1, q2, q3⟩ => ⟨u, q1, OwnR.mono q2 hW.size, hW.trans (q3.mono hW.size)⟩
    have ZC := hide (Below.refl w17.heap.size w17)
    obtain ⟨⟨c0, c1, c2, c3, c4, c5⟩, -⟩ := cells6 X17.out
    go_upto_region 34 with fail
    go_cut [17, 18] (fun s17 s18 wx => s18 = .bool b ∧ OwnV w17.heap.size wx s17 L ∧ Below w17.heap.size w17 wx)
    case first =>
      go_region_law (first
        | (go_simp; go_at_call 22; (with_reducible refine (HTC.out _ (by first | exact ZC.out | exact ZC.out.drew)).mono ?_); rintro e z1 ⟨u1, rfl, ho1, hb1, hz1⟩; (try replace OV := hide (OwnV.keep OV.out hb1)); (have OC := hide ho1); (replace ZC := hide hz1); (obtain ⟨⟨p0, p1, p2, p3, p4, p5⟩, -⟩ := cells6 (HXX.out _ hz1)); clear ho1 hb1 hz1)
        | (go_simp; go_at_call 37; (with_reducible refine (HTV.out _ (by first | exact ZC.out | exact ZC.out.drew)).mono ?_); rintro e z2 ⟨u2, rfl, ho2, hb2, hz2⟩; (try replace OC := hide (OwnC.keep OC.out hb2)); (have OV := hide ho2); (replace ZC := hide hz2); (obtain ⟨⟨q0, q1, q2, q3, q4, q5⟩, -⟩ := cells6 (HXX.out _ hz2)); clear ho2 hb2 hz2)
        | (go_simp; go_at_call 23; (with_reducible refine (HTH.out _ (by first | exact ZC.out | exact ZC.out.drew)).mono ?_); rintro e z3 ⟨rfl, hb3, hz3⟩; (try replace OC := hide (OwnC.keep OC.out hb3)); (try replace OV := hide (OwnV.keep OV.out hb3)); (replace ZC := hide hz3); clear hb3 hz3)
        | (go_simp; go_at_call 32; (with_reducible refine (HCC.out _ _ _ ZC.out OC.out OV.out).mono ?_); rintro e z4 ⟨u4, rfl, ho4, hz4⟩; (have ZF := hide hz4); (have OF := hide ho4); clear ho4 hz4)
        | fail)
      all_goals
        go_wp2_with fail
        go_meet
        exact ⟨rfl, OF.out, ZF.out⟩
    case rest =>
      obtain ⟨rfl, ho18, hb18⟩ := hcut
      have K18 := hide ho18
      obtain ⟨a18, c18, rfl, -, -⟩ := own_slc ho18
      have H18 := hide (H17.out.trans (hb18.mono H17.out.size))
      have W18 := hide (OwnV.keep W17.out hb18)
      have M18 := hide (OwnV.keep M17.out hb18)
      clear ho18 hb18 c0 c1 c2 c3 c4 c5 HTC HTV HTH HXX HCC ZC W17 X17 M17
      go_wp2_with fail
      with_reducible refine (eqValueS_same _ _ L _ (OwnV.recs K18.out) (OwnV.recs W18.out)).mono ?_
      rintro e w19 ⟨rfl, hb19⟩
      have H19 := hide (H18.out.trans (hb19.mono H18.out.size))
      have M19 := hide (OwnV.keep M18.out hb19)
      clear hb19 K18 W18 M18
      go_wp2_with fail
      with_reducible refine (heldV_one _ L.length _ (OwnV.recs M19.out) (by omega)).mono ?_
      rintro e w20 ⟨rfl, hb20⟩
      have H20 := hide (H19.out.trans (hb20.mono H19.out.size))
      clear hb20 M19
      go_wp2_with fail
      go_ret
      exact ⟨rfl, H20.out⟩
end Go.Proofs.YtdijcdadcbhipaaDoor
