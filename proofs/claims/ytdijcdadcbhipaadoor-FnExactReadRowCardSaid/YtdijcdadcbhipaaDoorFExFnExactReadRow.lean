/-
  The walk of FnExactReadRow.
-/
import Derived.Test.YtdijcdadcbhipaaDoorFExK
import Derived.Test.YtdijcdadcbhipaaDoorFRd
set_option linter.all false
namespace Go.Proofs.YtdijcdadcbhipaaDoor
open Go.RowKit
set_option maxHeartbeats 32000000 in
set_option maxRecDepth 100000 in
theorem fnExactReadRow_walk (vf : Value) (f : List RCol) (vs : Value) (cs : List RChg) (i : Int) (j : Int) (vr : Value) (r : List RVal) (w : World) (hf : Recs cEnc 4 w vf f) (okf : ∀ x ∈ f, okC x) (hs : Recs hEnc 6 w vs cs) (oks : ∀ x ∈ cs, okH x) (hr : Recs vEnc 3 w vr r) (okr : ∀ x ∈ r, okV x) (ht : Tab w) :
    Calls Tryd.prog 14 #[vf, vs, .int .i64 i, .int .i64 j, vr] w fun e w' => e = .returned (.bool true) ∧ Below w.heap.size w w' := by
  have HAf := hide hf
  have OKf := hide okf
  obtain ⟨aaf, ccf, rfl, -, -⟩ := hf.shape
  have HAs := hide hs
  have OKs := hide oks
  obtain ⟨aas, ccs, rfl, -, -⟩ := hs.shape
  have HAr := hide hr
  have OKr := hide okr
  obtain ⟨aar, ccr, rfl, -, -⟩ := hr.shape
  obtain ⟨R, hR⟩ : ∃ R, (readL f cs i j r).getD [] = R := ⟨_, rfl⟩
  obtain ⟨b, hb⟩ : ∃ b, (readL f cs i j r).isSome = b := ⟨_, rfl⟩
  have hbb : (b != b) = false := by simp
  have hRB : R.length ≤ 5 := by rw [← hR]; exact read_len
  have HSP : Hid (∀ W uf us ur, Recs cEnc 4 W uf f → Recs hEnc 6 W us cs → Recs vEnc 3 W ur r → Calls Tryd.prog 50 #[uf, us, .int .i64 i, .int .i64 j, ur] W fun e w' => ∃ u, e = .returned (.tuple #[u, .bool b]) ∧ OwnV W.heap.size w' u R ∧ Below W.heap.size W w') := fun W uf us ur qf qs qr =>
    (sRead_any uf us ur f cs i j r W qf qs qr OKf.out OKs.out OKr.out).mono fun e w' hq => by
      obtain ⟨u, h1, h2, h3⟩ := hq.unix
      rw [hb] at h1; rw [hR] at h2
      exact ⟨u, h1, h2, h3⟩
  have HIM : Hid (∀ W uf us ur, Recs cEnc 4 W uf f → Recs hEnc 6 W us cs → Recs vEnc 3 W ur r → Tab W → Calls Tryd.prog 49 #[uf, us, .int .i64 i, .int .i64 j, ur] W fun e w' => ∃ u, e = .returned (.tuple #[u, .bool b]) ∧ OwnV W.heap.size w' u R ∧ Below W.heap.size W w') := fun W uf us ur qf qs qr ht' =>
    (iRead_any uf us ur f cs i j r W qf qs qr ht').mono fun e w' hq => by
      obtain ⟨u, h1, h2, h3⟩ := hq.unix
      rw [hb] at h1; rw [hR] at h2
      exact ⟨u, h1, h2, h3⟩
  clear hf okf hs oks hr okr hR hb
  go_enter Tryd.func14, Tryd.ntmps14
  have H0 := hide (Below.refl w.heap.size w)
  go_wp2_with fail
  with_reducible refine (szColumnS_any _ f 1048576 _ (HAf.out.keep H0.out) OKf.out (by omega) (by omega)).mono ?_
  rintro e w1 ⟨r1, rfl, hr1, hs1, hn1, hb1⟩
  have H1 : Hid (Below w.heap.size w w1) := H0.out.trans (hb1.mono H0.out.size)
  clear hb1
  by_cases hneg1 : r1 < 0
  · go_wp2_with fail
    go_ret
    exact ⟨rfl, H1.out⟩
  go_wp2_with fail
  with_reducible refine (szChangeS_any _ cs r1 _ (HAs.out.keep H1.out) OKs.out (by omega) (by omega)).mono ?_
  rintro e w2 ⟨r2, rfl, hr2, hs2, hn2, hb2⟩
  have H2 : Hid (Below w.heap.size w w2) := H1.out.trans (hb2.mono H1.out.size)
  clear hb2
  by_cases hneg2 : r2 < 0
  · go_wp2_with fail
    go_ret
    exact ⟨rfl, H2.out⟩
  go_wp2_with fail
  with_reducible refine (szValueS_any _ r r2 _ (HAr.out.keep H2.out) OKr.out (by omega) (by omega)).mono ?_
  rintro e w3 ⟨r3, rfl, hr3, hs3, hn3, hb3⟩
  have H3 : Hid (Below w.heap.size w w3) := H2.out.trans (hb3.mono H2.out.size)
  clear hb3
  by_cases hneg3 : r3 < 0
  · go_wp2_with fail
    go_ret
    exact ⟨rfl, H3.out⟩
  have htot : (f.length : Int) + (cs.length : Int) + (r.length : Int) ≤ 1048576 := by omega
  have hlf : f.length ≤ 1048576 := by omega
  have hls : cs.length ≤ 1048576 := by omega
  have hlr : r.length ≤ 1048576 := by omega
  clear hr1 hs1 hn1 hneg1 hr2 hs2 hn2 hneg2 hr3 hs3 hn3
  go_wp2_with fail
  with_reducible refine (toColumnS_any _ f _ (HAf.out.keep H3.out) hlf).mono ?_
  rintro e w4 ⟨pf, rfl, ho4, hb4, -⟩
  have S4 : Hid (w3.heap.size ≤ w4.heap.size) := hb4.size
  have H4 : Hid (Below w.heap.size w w4) := H3.out.trans (hb4.mono H3.out.size)
  have OPf4 : Hid (OwnC w3.heap.size w4 pf f) := ho4
  have ZPf4 := hide (Below.refl w4.heap.size w4)
  have BPf : Hid (∀ j, (pf).ownBlock = some j → w3.heap.size ≤ j) := OwnR.base ho4
  have TPf : Hid (∀ j, (pf).ownBlock = some j → j < w4.heap.size) := OwnR.top ho4
  clear ho4
  clear hb4
  go_wp2_with fail
  with_reducible refine (toChangeS_any _ cs _ (HAs.out.keep H4.out) hls).mono ?_
  rintro e w5 ⟨ps, rfl, ho5, hb5, -⟩
  have S5 : Hid (w4.heap.size ≤ w5.heap.size) := hb5.size
  have H5 : Hid (Below w.heap.size w w5) := H4.out.trans (hb5.mono H4.out.size)
  have ZPf5 := hide (ZPf4.out.trans (hb5.mono ZPf4.out.size))
  have OPs5 : Hid (OwnHx w4.heap.size w5 ps cs) := ho5
  have ZPs5 := hide (Below.refl w5.heap.size w5)
  have BPs : Hid (∀ j, (ps).ownBlock = some j → w4.heap.size ≤ j) := OwnR.base ho5
  have TPs : Hid (∀ j, (ps).ownBlock = some j → j < w5.heap.size) := OwnR.top ho5
  clear ho5
  clear ZPf4 hb5
  go_wp2_with fail
  with_reducible refine (toValueS_any _ r _ (HAr.out.keep H5.out) hlr).mono ?_
  rintro e w6 ⟨pr, rfl, ho6, hb6, -⟩
  have S6 : Hid (w5.heap.size ≤ w6.heap.size) := hb6.size
  have H6 : Hid (Below w.heap.size w w6) := H5.out.trans (hb6.mono H5.out.size)
  have ZPf6 := hide (ZPf5.out.trans (hb6.mono ZPf5.out.size))
  have ZPs6 := hide (ZPs5.out.trans (hb6.mono ZPs5.out.size))
  have OPr6 : Hid (OwnV w5.heap.size w6 pr r) := ho6
  have ZPr6 := hide (Below.refl w6.heap.size w6)
  have BPr : Hid (∀ j, (pr).ownBlock = some j → w5.heap.size ≤ j) := OwnR.base ho6
  have TPr : Hid (∀ j, (pr).ownBlock = some j → j < w6.heap.size) := OwnR.top ho6
  clear ho6
  clear ZPf5 ZPs5 hb6
  go_wp2_with fail
  with_reducible refine (HSP.out w6 pf ps pr (OwnC.recs (OwnC.keep OPf4.out ZPf6.out)) (OwnHx.recs (OwnHx.keep OPs5.out ZPs6.out)) (OwnV.recs (OwnV.keep OPr6.out ZPr6.out))).mono ?_
  rintro e w7 ⟨vw, rfl, ho7, hb7⟩
  have S7 : Hid (w6.heap.size ≤ w7.heap.size) := hb7.size
  have H7 : Hid (Below w.heap.size w w7) := H6.out.trans (hb7.mono H6.out.size)
  have ZPf7 := hide (ZPf6.out.trans (hb7.mono ZPf6.out.size))
  have ZPs7 := hide (ZPs6.out.trans (hb7.mono ZPs6.out.size))
  have ZPr7 := hide (ZPr6.out.trans (hb7.mono ZPr6.out.size))
  have OW7 : Hid (OwnV w6.heap.size w7 vw R) := ho7
  have ZW7 := hide (Below.refl w7.heap.size w7)
  have BW : Hid (∀ j, (vw).ownBlock = some j → w6.heap.size ≤ j) := OwnR.base ho7
  have TW : Hid (∀ j, (vw).ownBlock = some j → j < w7.heap.size) := OwnR.top ho7
  clear ho7
  clear ZPf6 ZPs6 ZPr6 hb7
  clear ZPf7 OPf4
  clear ZPs7 OPs5
  clear ZPr7 OPr6
  go_wp2_with fail
  with_reducible refine (toColumnS_any _ f _ (HAf.out.keep H7.out) hlf).mono ?_
  rintro e w8 ⟨xf, rfl, ho8, hb8, -⟩
  have S8 : Hid (w7.heap.size ≤ w8.heap.size) := hb8.size
  have H8 : Hid (Below w.heap.size w w8) := H7.out.trans (hb8.mono H7.out.size)
  have ZW8 := hide (ZW7.out.trans (hb8.mono ZW7.out.size))
  have OXf8 : Hid (OwnC w7.heap.size w8 xf f) := ho8
  have ZXf8 := hide (Below.refl w8.heap.size w8)
  have BXf : Hid (∀ j, (xf).ownBlock = some j → w7.heap.size ≤ j) := OwnR.base ho8
  have TXf : Hid (∀ j, (xf).ownBlock = some j → j < w8.heap.size) := OwnR.top ho8
  clear ho8
  clear ZW7 hb8
  go_wp2_with fail
  with_reducible refine (toChangeS_any _ cs _ (HAs.out.keep H8.out) hls).mono ?_
  rintro e w9 ⟨xs, rfl, ho9, hb9, -⟩
  have S9 : Hid (w8.heap.size ≤ w9.heap.size) := hb9.size
  have H9 : Hid (Below w.heap.size w w9) := H8.out.trans (hb9.mono H8.out.size)
  have ZW9 := hide (ZW8.out.trans (hb9.mono ZW8.out.size))
  have ZXf9 := hide (ZXf8.out.trans (hb9.mono ZXf8.out.size))
  have OXs9 : Hid (OwnHx w8.heap.size w9 xs cs) := ho9
  have ZXs9 := hide (Below.refl w9.heap.size w9)
  have BXs : Hid (∀ j, (xs).ownBlock = some j → w8.heap.size ≤ j) := OwnR.base ho9
  have TXs : Hid (∀ j, (xs).ownBlock = some j → j < w9.heap.size) := OwnR.top ho9
  clear ho9
  clear ZW8 ZXf8 hb9
  go_wp2_with fail
  with_reducible refine (toValueS_any _ r _ (HAr.out.keep H9.out) hlr).mono ?_
  rintro e w10 ⟨xr, rfl, ho10, hb10, -⟩
  have S10 : Hid (w9.heap.size ≤ w10.heap.size) := hb10.size
  have H10 : Hid (Below w.heap.size w w10) := H9.out.trans (hb10.mono H9.out.size)
  have ZW10 := hide (ZW9.out.trans (hb10.mono ZW9.out.size))
  have ZXf10 := hide (ZXf9.out.trans (hb10.mono ZXf9.out.size))
  have ZXs10 := hide (ZXs9.out.trans (hb10.mono ZXs9.out.size))
  have OXr10 : Hid (OwnV w9.heap.size w10 xr r) := ho10
  have ZXr10 := hide (Below.refl w10.heap.size w10)
  have BXr : Hid (∀ j, (xr).ownBlock = some j → w9.heap.size ≤ j) := OwnR.base ho10
  have TXr : Hid (∀ j, (xr).ownBlock = some j → j < w10.heap.size) := OwnR.top ho10
  clear ho10
  clear ZW9 ZXf9 ZXs9 hb10
  go_wp2_with fail
  with_reducible refine (HIM.out w10 xf xs xr (OwnC.recs (OwnC.keep OXf8.out ZXf10.out)) (OwnHx.recs (OwnHx.keep OXs9.out ZXs10.out)) (OwnV.recs (OwnV.keep OXr10.out ZXr10.out)) (ht.keep H10.out)).mono ?_
  rintro e w11 ⟨vg, rfl, ho11, hb11⟩
  have S11 : Hid (w10.heap.size ≤ w11.heap.size) := hb11.size
  have H11 : Hid (Below w.heap.size w w11) := H10.out.trans (hb11.mono H10.out.size)
  have ZW11 := hide (ZW10.out.trans (hb11.mono ZW10.out.size))
  have ZXf11 := hide (ZXf10.out.trans (hb11.mono ZXf10.out.size))
  have ZXs11 := hide (ZXs10.out.trans (hb11.mono ZXs10.out.size))
  have ZXr11 := hide (ZXr10.out.trans (hb11.mono ZXr10.out.size))
  have OG11 : Hid (OwnV w10.heap.size w11 vg R) := ho11
  have ZG11 := hide (Below.refl w11.heap.size w11)
  have BG : Hid (∀ j, (vg).ownBlock = some j → w10.heap.size ≤ j) := OwnR.base ho11
  have TG : Hid (∀ j, (vg).ownBlock = some j → j < w11.heap.size) := OwnR.top ho11
  clear ho11
  clear ZW10 ZXf10 ZXs10 ZXr10 hb11
  go_wp2_with fail
  with_reducible refine (eqValueS_same _ _ R _ (OwnV.recs (OwnV.keep OG11.out ZG11.out)) (OwnV.recs (OwnV.keep OW7.out ZW11.out))).mono ?_
  rintro e w12 ⟨rfl, hb12⟩
  have S12 : Hid (w11.heap.size ≤ w12.heap.size) := hb12.size
  have H12 : Hid (Below w.heap.size w w12) := H11.out.trans (hb12.mono H11.out.size)
  have ZW12 := hide (ZW11.out.trans (hb12.mono ZW11.out.size))
  have ZXf12 := hide (ZXf11.out.trans (hb12.mono ZXf11.out.size))
  have ZXs12 := hide (ZXs11.out.trans (hb12.mono ZXs11.out.size))
  have ZXr12 := hide (ZXr11.out.trans (hb12.mono ZXr11.out.size))
  have ZG12 := hide (ZG11.out.trans (hb12.mono ZG11.out.size))
  clear ZW11 ZXf11 ZXs11 ZXr11 ZG11 hb12
  go_wp2_with fail
  with_reducible refine (toColumnS_any _ f _ (HAf.out.keep H12.out) hlf).mono ?_
  rintro e w13 ⟨yf, rfl, ho13, hb13, -⟩
  have S13 : Hid (w12.heap.size ≤ w13.heap.size) := hb13.size
  have H13 : Hid (Below w.heap.size w w13) := H12.out.trans (hb13.mono H12.out.size)
  have ZW13 := hide (ZW12.out.trans (hb13.mono ZW12.out.size))
  have ZXf13 := hide (ZXf12.out.trans (hb13.mono ZXf12.out.size))
  have ZXs13 := hide (ZXs12.out.trans (hb13.mono ZXs12.out.size))
  have ZXr13 := hide (ZXr12.out.trans (hb13.mono ZXr12.out.size))
  have ZG13 := hide (ZG12.out.trans (hb13.mono ZG12.out.size))
  have OYf13 : Hid (OwnC w12.heap.size w13 yf f) := ho13
  have ZYf13 := hide (Below.refl w13.heap.size w13)
  have BYf : Hid (∀ j, (yf).ownBlock = some j → w12.heap.size ≤ j) := OwnR.base ho13
  have TYf : Hid (∀ j, (yf).ownBlock = some j → j < w13.heap.size) := OwnR.top ho13
  clear ho13
  clear ZW12 ZXf12 ZXs12 ZXr12 ZG12 hb13
  go_wp2_with fail
  with_reducible refine (eqColumnS_same _ _ f _ (OwnC.recs (OwnC.keep OXf8.out ZXf13.out)) (OwnC.recs (OwnC.keep OYf13.out ZYf13.out))).mono ?_
  rintro e w14 ⟨rfl, hb14⟩
  have S14 : Hid (w13.heap.size ≤ w14.heap.size) := hb14.size
  have H14 : Hid (Below w.heap.size w w14) := H13.out.trans (hb14.mono H13.out.size)
  have ZW14 := hide (ZW13.out.trans (hb14.mono ZW13.out.size))
  have ZXf14 := hide (ZXf13.out.trans (hb14.mono ZXf13.out.size))
  have ZXs14 := hide (ZXs13.out.trans (hb14.mono ZXs13.out.size))
  have ZXr14 := hide (ZXr13.out.trans (hb14.mono ZXr13.out.size))
  have ZG14 := hide (ZG13.out.trans (hb14.mono ZG13.out.size))
  have ZYf14 := hide (ZYf13.out.trans (hb14.mono ZYf13.out.size))
  clear ZW13 ZXf13 ZXs13 ZXr13 ZG13 ZYf13 hb14
  clear ZYf14 OYf13
  go_wp2_with fail
  with_reducible refine (toChangeS_any _ cs _ (HAs.out.keep H14.out) hls).mono ?_
  rintro e w15 ⟨ys, rfl, ho15, hb15, -⟩
  have S15 : Hid (w14.heap.size ≤ w15.heap.size) := hb15.size
  have H15 : Hid (Below w.heap.size w w15) := H14.out.trans (hb15.mono H14.out.size)
  have ZW15 := hide (ZW14.out.trans (hb15.mono ZW14.out.size))
  have ZXf15 := hide (ZXf14.out.trans (hb15.mono ZXf14.out.size))
  have ZXs15 := hide (ZXs14.out.trans (hb15.mono ZXs14.out.size))
  have ZXr15 := hide (ZXr14.out.trans (hb15.mono ZXr14.out.size))
  have ZG15 := hide (ZG14.out.trans (hb15.mono ZG14.out.size))
  have OYs15 : Hid (OwnHx w14.heap.size w15 ys cs) := ho15
  have ZYs15 := hide (Below.refl w15.heap.size w15)
  have BYs : Hid (∀ j, (ys).ownBlock = some j → w14.heap.size ≤ j) := OwnR.base ho15
  have TYs : Hid (∀ j, (ys).ownBlock = some j → j < w15.heap.size) := OwnR.top ho15
  clear ho15
  clear ZW14 ZXf14 ZXs14 ZXr14 ZG14 hb15
  go_wp2_with fail
  with_reducible refine (eqChangeS_same _ _ cs _ (OwnHx.recs (OwnHx.keep OXs9.out ZXs15.out)) (OwnHx.recs (OwnHx.keep OYs15.out ZYs15.out))).mono ?_
  rintro e w16 ⟨rfl, hb16⟩
  have S16 : Hid (w15.heap.size ≤ w16.heap.size) := hb16.size
  have H16 : Hid (Below w.heap.size w w16) := H15.out.trans (hb16.mono H15.out.size)
  have ZW16 := hide (ZW15.out.trans (hb16.mono ZW15.out.size))
  have ZXf16 := hide (ZXf15.out.trans (hb16.mono ZXf15.out.size))
  have ZXs16 := hide (ZXs15.out.trans (hb16.mono ZXs15.out.size))
  have ZXr16 := hide (ZXr15.out.trans (hb16.mono ZXr15.out.size))
  have ZG16 := hide (ZG15.out.trans (hb16.mono ZG15.out.size))
  have ZYs16 := hide (ZYs15.out.trans (hb16.mono ZYs15.out.size))
  clear ZW15 ZXf15 ZXs15 ZXr15 ZG15 ZYs15 hb16
  clear ZYs16 OYs15
  go_wp2_with fail
  with_reducible refine (toValueS_any _ r _ (HAr.out.keep H16.out) hlr).mono ?_
  rintro e w17 ⟨yr, rfl, ho17, hb17, -⟩
  have S17 : Hid (w16.heap.size ≤ w17.heap.size) := hb17.size
  have H17 : Hid (Below w.heap.size w w17) := H16.out.trans (hb17.mono H16.out.size)
  have ZW17 := hide (ZW16.out.trans (hb17.mono ZW16.out.size))
  have ZXf17 := hide (ZXf16.out.trans (hb17.mono ZXf16.out.size))
  have ZXs17 := hide (ZXs16.out.trans (hb17.mono ZXs16.out.size))
  have ZXr17 := hide (ZXr16.out.trans (hb17.mono ZXr16.out.size))
  have ZG17 := hide (ZG16.out.trans (hb17.mono ZG16.out.size))
  have OYr17 : Hid (OwnV w16.heap.size w17 yr r) := ho17
  have ZYr17 := hide (Below.refl w17.heap.size w17)
  have BYr : Hid (∀ j, (yr).ownBlock = some j → w16.heap.size ≤ j) := OwnR.base ho17
  have TYr : Hid (∀ j, (yr).ownBlock = some j → j < w17.heap.size) := OwnR.top ho17
  clear ho17
  clear ZW16 ZXf16 ZXs16 ZXr16 ZG16 hb17
  go_wp2_with fail
  with_reducible refine (eqValueS_same _ _ r _ (OwnV.recs (OwnV.keep OXr10.out ZXr17.out)) (OwnV.recs (OwnV.keep OYr17.out ZYr17.out))).mono ?_
  rintro e w18 ⟨rfl, hb18⟩
  have S18 : Hid (w17.heap.size ≤ w18.heap.size) := hb18.size
  have H18 : Hid (Below w.heap.size w w18) := H17.out.trans (hb18.mono H17.out.size)
  have ZW18 := hide (ZW17.out.trans (hb18.mono ZW17.out.size))
  have ZXf18 := hide (ZXf17.out.trans (hb18.mono ZXf17.out.size))
  have ZXs18 := hide (ZXs17.out.trans (hb18.mono ZXs17.out.size))
  have ZXr18 := hide (ZXr17.out.trans (hb18.mono ZXr17.out.size))
  have ZG18 := hide (ZG17.out.trans (hb18.mono ZG17.out.size))
  have ZYr18 := hide (ZYr17.out.trans (hb18.mono ZYr17.out.size))
  clear ZW17 ZXf17 ZXs17 ZXr17 ZG17 ZYr17 hb18
  clear ZYr18 OYr17
  go_wp2_with fail
  with_reducible refine (markC_one 1 1 rfl _ _ f _ (OwnC.toRx (OwnC.keep OXf8.out ZXf18.out)) (by omega) (by omega)).mono ?_
  rintro e w19 ⟨rfl, hg19, hm19⟩
  have S19 : Hid (w18.heap.size ≤ w19.heap.size) := hg19.size
  have H19 : Hid (Below w.heap.size w w19) := below_own H18.out hg19 (fun j e => by have := BXf.out j e; have := H7.out.size; have := S8.out; have := S9.out; have := S10.out; have := S11.out; omega)
  have ZW19 : Hid (Below w7.heap.size w7 w19) := below_own ZW18.out hg19 (fun j e => by have := BXf.out j e; have := H7.out.size; have := S8.out; have := S9.out; have := S10.out; have := S11.out; omega)
  clear ZW18
  have OXs19 : Hid (OwnHx w8.heap.size w19 xs cs) := OwnR.kept2 (OwnHx.keep OXs9.out ZXs18.out) hg19 (fun j h1 h2 => by have := TXf.out j h2; have := BXs.out j h1; have := H7.out.size; have := S8.out; have := S9.out; have := S10.out; have := S11.out; omega)
  have ZXs19 := hide (Below.refl w19.heap.size w19)
  clear OXs9
  clear ZXs18
  have OXr19 : Hid (OwnV w9.heap.size w19 xr r) := OwnR.kept2 (OwnV.keep OXr10.out ZXr18.out) hg19 (fun j h1 h2 => by have := TXf.out j h2; have := BXr.out j h1; have := H7.out.size; have := S8.out; have := S9.out; have := S10.out; have := S11.out; omega)
  have ZXr19 := hide (Below.refl w19.heap.size w19)
  clear OXr10
  clear ZXr18
  have OG19 : Hid (OwnV w10.heap.size w19 vg R) := OwnR.kept2 (OwnV.keep OG11.out ZG18.out) hg19 (fun j h1 h2 => by have := TXf.out j h2; have := BG.out j h1; have := H7.out.size; have := S8.out; have := S9.out; have := S10.out; have := S11.out; omega)
  have ZG19 := hide (Below.refl w19.heap.size w19)
  clear OG11
  clear ZG18
  clear hg19 hm19 OXf8 ZXf18
  go_wp2_with fail
  with_reducible refine (markH_one (1 + 4 * (f.length : Int)) (1 + 4 * f.length) (by omega) _ _ cs _ (OwnHx.toRx (OwnHx.keep OXs19.out ZXs19.out)) (by omega) (by omega)).mono ?_
  rintro e w20 ⟨rfl, hg20, hm20⟩
  have S20 : Hid (w19.heap.size ≤ w20.heap.size) := hg20.size
  have H20 : Hid (Below w.heap.size w w20) := below_own H19.out hg20 (fun j e => by have := BXs.out j e; have := H7.out.size; have := S8.out; have := S9.out; have := S10.out; have := S11.out; omega)
  have ZW20 : Hid (Below w7.heap.size w7 w20) := below_own ZW19.out hg20 (fun j e => by have := BXs.out j e; have := H7.out.size; have := S8.out; have := S9.out; have := S10.out; have := S11.out; omega)
  clear ZW19
  have OXr20 : Hid (OwnV w9.heap.size w20 xr r) := OwnR.kept2 (OwnV.keep OXr19.out ZXr19.out) hg20 (fun j h1 h2 => by have := TXs.out j h2; have := BXr.out j h1; have := H7.out.size; have := S8.out; have := S9.out; have := S10.out; have := S11.out; omega)
  have ZXr20 := hide (Below.refl w20.heap.size w20)
  clear OXr19
  clear ZXr19
  have OG20 : Hid (OwnV w10.heap.size w20 vg R) := OwnR.kept2 (OwnV.keep OG19.out ZG19.out) hg20 (fun j h1 h2 => by have := TXs.out j h2; have := BG.out j h1; have := H7.out.size; have := S8.out; have := S9.out; have := S10.out; have := S11.out; omega)
  have ZG20 := hide (Below.refl w20.heap.size w20)
  clear OG19
  clear ZG19
  clear hg20 hm20 OXs19 ZXs19
  go_wp2_with fail
  with_reducible refine (markV_one (1 + 4 * (f.length : Int) + 6 * (cs.length : Int)) (1 + 4 * f.length + 6 * cs.length) (by omega) _ _ r _ (OwnV.toRx (OwnV.keep OXr20.out ZXr20.out)) (by omega) (by omega)).mono ?_
  rintro e w21 ⟨rfl, hg21, hm21⟩
  have S21 : Hid (w20.heap.size ≤ w21.heap.size) := hg21.size
  have H21 : Hid (Below w.heap.size w w21) := below_own H20.out hg21 (fun j e => by have := BXr.out j e; have := H7.out.size; have := S8.out; have := S9.out; have := S10.out; have := S11.out; omega)
  have ZW21 : Hid (Below w7.heap.size w7 w21) := below_own ZW20.out hg21 (fun j e => by have := BXr.out j e; have := H7.out.size; have := S8.out; have := S9.out; have := S10.out; have := S11.out; omega)
  clear ZW20
  have OG21 : Hid (OwnV w10.heap.size w21 vg R) := OwnR.kept2 (OwnV.keep OG20.out ZG20.out) hg21 (fun j h1 h2 => by have := TXr.out j h2; have := BG.out j h1; have := H7.out.size; have := S8.out; have := S9.out; have := S10.out; have := S11.out; omega)
  have ZG21 := hide (Below.refl w21.heap.size w21)
  clear OG20
  clear ZG20
  clear hg21 hm21 OXr20 ZXr20
  have hm1 : ¬ (((1 : Int) + 4 * (f.length : Int) + 6 * (cs.length : Int) + 3 * (r.length : Int)) < 0) := by omega
  have hm3 : decide (((1 : Int) + 4 * (f.length : Int) + 6 * (cs.length : Int) + 3 * (r.length : Int)) < 0) = false := decide_eq_false hm1
  go_wp2_with fail
  with_reducible refine (eqValueS_same _ _ R _ (OwnV.recs (OwnV.keep OG21.out ZG21.out)) (OwnV.recs (OwnV.keep OW7.out ZW21.out))).mono ?_
  rintro e w22 ⟨rfl, hb22⟩
  have S22 : Hid (w21.heap.size ≤ w22.heap.size) := hb22.size
  have H22 : Hid (Below w.heap.size w w22) := H21.out.trans (hb22.mono H21.out.size)
  have ZW22 := hide (ZW21.out.trans (hb22.mono ZW21.out.size))
  have ZG22 := hide (ZG21.out.trans (hb22.mono ZG21.out.size))
  clear ZW21 ZG21 hb22
  go_wp2_with fail
  with_reducible refine (markV_one 1 1 rfl _ _ R _ (OwnV.toRx (OwnV.keep OG21.out ZG22.out)) (by omega) (by omega)).mono ?_
  rintro e w23 ⟨rfl, hg23, hm23⟩
  have H23 : Hid (Below w.heap.size w w23) := below_own H22.out hg23 (fun j e => by have := BG.out j e; have := H7.out.size; have := S8.out; have := S9.out; have := S10.out; have := S11.out; omega)
  have ZW23 : Hid (Below w7.heap.size w7 w23) := below_own ZW22.out hg23 (fun j e => by have := BG.out j e; have := H7.out.size; have := S8.out; have := S9.out; have := S10.out; have := S11.out; omega)
  have OM23 : Hid (OwnV w10.heap.size w23 vg (markV 1 R.length)) := hm23
  clear hg23
  have ZM23 := hide (Below.refl w23.heap.size w23)
  clear hm23 ZW22 ZG22 OG21
  have hk1 : ((1 : Int) + 3 * (R.length : Int) != 1 + 3 * (R.length : Int)) = false := by simp
  have hk2 : ¬ ((1 : Int) + 3 * (R.length : Int) < 0) := by omega
  have hk3 : decide ((1 : Int) + 3 * (R.length : Int) < 0) = false := decide_eq_false hk2
  go_wp2_with fail
  with_reducible refine (heldV_one _ R.length _ (OwnV.recs (OwnV.keep OM23.out ZM23.out)) (by omega)).mono ?_
  rintro e w24 ⟨rfl, hb24⟩
  have S24 : Hid (w23.heap.size ≤ w24.heap.size) := hb24.size
  have H24 : Hid (Below w.heap.size w w24) := H23.out.trans (hb24.mono H23.out.size)
  have ZW24 := hide (ZW23.out.trans (hb24.mono ZW23.out.size))
  have ZM24 := hide (ZM23.out.trans (hb24.mono ZM23.out.size))
  clear ZW23 ZM23 hb24
  go_wp2_with fail
  with_reducible refine (toColumnS_any _ f _ (HAf.out.keep H24.out) hlf).mono ?_
  rintro e w25 ⟨qf, rfl, ho25, hb25, -⟩
  have S25 : Hid (w24.heap.size ≤ w25.heap.size) := hb25.size
  have H25 : Hid (Below w.heap.size w w25) := H24.out.trans (hb25.mono H24.out.size)
  have ZW25 := hide (ZW24.out.trans (hb25.mono ZW24.out.size))
  have ZM25 := hide (ZM24.out.trans (hb25.mono ZM24.out.size))
  have OQf25 : Hid (OwnC w24.heap.size w25 qf f) := ho25
  have ZQf25 := hide (Below.refl w25.heap.size w25)
  have BQf : Hid (∀ j, (qf).ownBlock = some j → w24.heap.size ≤ j) := OwnR.base ho25
  have TQf : Hid (∀ j, (qf).ownBlock = some j → j < w25.heap.size) := OwnR.top ho25
  clear ho25
  clear ZW24 ZM24 hb25
  go_wp2_with fail
  with_reducible refine (toChangeS_any _ cs _ (HAs.out.keep H25.out) hls).mono ?_
  rintro e w26 ⟨qs, rfl, ho26, hb26, -⟩
  have S26 : Hid (w25.heap.size ≤ w26.heap.size) := hb26.size
  have H26 : Hid (Below w.heap.size w w26) := H25.out.trans (hb26.mono H25.out.size)
  have ZW26 := hide (ZW25.out.trans (hb26.mono ZW25.out.size))
  have ZM26 := hide (ZM25.out.trans (hb26.mono ZM25.out.size))
  have ZQf26 := hide (ZQf25.out.trans (hb26.mono ZQf25.out.size))
  have OQs26 : Hid (OwnHx w25.heap.size w26 qs cs) := ho26
  have ZQs26 := hide (Below.refl w26.heap.size w26)
  have BQs : Hid (∀ j, (qs).ownBlock = some j → w25.heap.size ≤ j) := OwnR.base ho26
  have TQs : Hid (∀ j, (qs).ownBlock = some j → j < w26.heap.size) := OwnR.top ho26
  clear ho26
  clear ZW25 ZM25 ZQf25 hb26
  go_wp2_with fail
  with_reducible refine (toValueS_any _ r _ (HAr.out.keep H26.out) hlr).mono ?_
  rintro e w27 ⟨qr, rfl, ho27, hb27, -⟩
  have S27 : Hid (w26.heap.size ≤ w27.heap.size) := hb27.size
  have H27 : Hid (Below w.heap.size w w27) := H26.out.trans (hb27.mono H26.out.size)
  have ZW27 := hide (ZW26.out.trans (hb27.mono ZW26.out.size))
  have ZM27 := hide (ZM26.out.trans (hb27.mono ZM26.out.size))
  have ZQf27 := hide (ZQf26.out.trans (hb27.mono ZQf26.out.size))
  have ZQs27 := hide (ZQs26.out.trans (hb27.mono ZQs26.out.size))
  have OQr27 : Hid (OwnV w26.heap.size w27 qr r) := ho27
  have ZQr27 := hide (Below.refl w27.heap.size w27)
  have BQr : Hid (∀ j, (qr).ownBlock = some j → w26.heap.size ≤ j) := OwnR.base ho27
  have TQr : Hid (∀ j, (qr).ownBlock = some j → j < w27.heap.size) := OwnR.top ho27
  clear ho27
  clear ZW26 ZM26 ZQf26 ZQs26 hb27
  go_wp2_with fail
  with_reducible refine (HIM.out w27 qf qs qr (OwnC.recs (OwnC.keep OQf25.out ZQf27.out)) (OwnHx.recs (OwnHx.keep OQs26.out ZQs27.out)) (OwnV.recs (OwnV.keep OQr27.out ZQr27.out)) (ht.keep H27.out)).mono ?_
  rintro e w28 ⟨vh, rfl, ho28, hb28⟩
  have S28 : Hid (w27.heap.size ≤ w28.heap.size) := hb28.size
  have H28 : Hid (Below w.heap.size w w28) := H27.out.trans (hb28.mono H27.out.size)
  have ZW28 := hide (ZW27.out.trans (hb28.mono ZW27.out.size))
  have ZM28 := hide (ZM27.out.trans (hb28.mono ZM27.out.size))
  have ZQf28 := hide (ZQf27.out.trans (hb28.mono ZQf27.out.size))
  have ZQs28 := hide (ZQs27.out.trans (hb28.mono ZQs27.out.size))
  have ZQr28 := hide (ZQr27.out.trans (hb28.mono ZQr27.out.size))
  have OK28 : Hid (OwnV w27.heap.size w28 vh R) := ho28
  have ZK28 := hide (Below.refl w28.heap.size w28)
  have BK : Hid (∀ j, (vh).ownBlock = some j → w27.heap.size ≤ j) := OwnR.base ho28
  have TK : Hid (∀ j, (vh).ownBlock = some j → j < w28.heap.size) := OwnR.top ho28
  clear ho28
  clear ZW27 ZM27 ZQf27 ZQs27 ZQr27 hb28
  clear ZQf28 OQf25
  clear ZQs28 OQs26
  clear ZQr28 OQr27
  go_wp2_with fail
  with_reducible refine (eqValueS_same _ _ R _ (OwnV.recs (OwnV.keep OK28.out ZK28.out)) (OwnV.recs (OwnV.keep OW7.out ZW28.out))).mono ?_
  rintro e w29 ⟨rfl, hb29⟩
  have S29 : Hid (w28.heap.size ≤ w29.heap.size) := hb29.size
  have H29 : Hid (Below w.heap.size w w29) := H28.out.trans (hb29.mono H28.out.size)
  have ZW29 := hide (ZW28.out.trans (hb29.mono ZW28.out.size))
  have ZM29 := hide (ZM28.out.trans (hb29.mono ZM28.out.size))
  have ZK29 := hide (ZK28.out.trans (hb29.mono ZK28.out.size))
  clear ZW28 ZM28 ZK28 hb29
  clear ZK29 OK28
  clear ZW29 OW7
  go_wp2_with fail
  with_reducible refine (heldV_one _ R.length _ (OwnV.recs (OwnV.keep OM23.out ZM29.out)) (by omega)).mono ?_
  rintro e w30 ⟨rfl, hb30⟩
  have S30 : Hid (w29.heap.size ≤ w30.heap.size) := hb30.size
  have H30 : Hid (Below w.heap.size w w30) := H29.out.trans (hb30.mono H29.out.size)
  have ZM30 := hide (ZM29.out.trans (hb30.mono ZM29.out.size))
  clear ZM29 hb30
  go_wp2_with fail
  go_ret
  exact ⟨rfl, H30.out⟩
end Go.Proofs.YtdijcdadcbhipaaDoor
