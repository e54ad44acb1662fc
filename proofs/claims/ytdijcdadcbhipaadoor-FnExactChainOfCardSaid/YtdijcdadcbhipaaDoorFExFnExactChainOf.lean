/-
  The walk of FnExactChainOf.
-/
import Derived.Test.YtdijcdadcbhipaaDoorFExK
import Derived.Test.YtdijcdadcbhipaaDoorFCc
set_option linter.all false
namespace Go.Proofs.YtdijcdadcbhipaaDoor
open Go.RowKit
set_option maxHeartbeats 32000000 in
set_option maxRecDepth 100000 in
theorem fnExactChainOf_walk (vf : Value) (f : List RCol) (vs : Value) (cs : List RChg) (w : World) (hf : Recs cEnc 4 w vf f) (okf : ∀ x ∈ f, okC x) (hs : Recs hEnc 6 w vs cs) (oks : ∀ x ∈ cs, okH x) (ht : Tab w) :
    Calls Tryd.prog 11 #[vf, vs] w fun e w' => e = .returned (.bool true) ∧ Below w.heap.size w w' := by
  have HAf := hide hf
  have OKf := hide okf
  obtain ⟨aaf, ccf, rfl, -, -⟩ := hf.shape
  have HAs := hide hs
  have OKs := hide oks
  obtain ⟨aas, ccs, rfl, -, -⟩ := hs.shape
  obtain ⟨R, hR⟩ : ∃ R, (chainL f cs).getD [] = R := ⟨_, rfl⟩
  obtain ⟨b, hb⟩ : ∃ b, (chainL f cs).isSome = b := ⟨_, rfl⟩
  have hbb : (b != b) = false := by simp
  have hRB : totL R ≤ 45 := by rw [← hR]; exact chain_tot
  have HSP : Hid (∀ W uf us, Recs cEnc 4 W uf f → Recs hEnc 6 W us cs → Calls Tryd.prog 29 #[uf, us] W fun e w' => ∃ u, e = .returned (.tuple #[u, .bool b]) ∧ OwnL W.heap.size w' u R ∧ Below W.heap.size W w') := fun W uf us qf qs =>
    (sChain_any uf us f cs W qf qs OKf.out OKs.out).mono fun e w' hq => by
      obtain ⟨u, h1, h2, h3⟩ := hq.uni
      rw [hb] at h1; rw [hR] at h2
      exact ⟨u, h1, h2, h3⟩
  have HIM : Hid (∀ W uf us, Recs cEnc 4 W uf f → Recs hEnc 6 W us cs → Tab W → Calls Tryd.prog 28 #[uf, us] W fun e w' => ∃ u, e = .returned (.tuple #[u, .bool b]) ∧ OwnL W.heap.size w' u R ∧ Below W.heap.size W w') := fun W uf us qf qs ht' =>
    (iChain_any uf us f cs W qf qs ht').mono fun e w' hq => by
      obtain ⟨u, h1, h2, h3⟩ := hq.uni
      rw [hb] at h1; rw [hR] at h2
      exact ⟨u, h1, h2, h3⟩
  clear hf okf hs oks hR hb
  go_enter Tryd.func11, Tryd.ntmps11
  have H0 := hide (Below.refl w.heap.size w)
  go_wp2_with fail
  with_reducible refine (szColumnS_any _ f 1048576 _ (HAf.out.keep H0.out) OKf.out (by omega) (by omega)).mono ?_
  rintro e w1 ⟨r1, rfl, hr1, hs1, hn1, hb1⟩
  have H1 : Hid (Below w.heap.size w w1) := H0.out.trans (hb1.mono H0.out.size)
  clear hb1
  by_cases hneg1 : r1 < 0
  · go_wp2_with fail
    go_ret
    exact ⟨rfl, H1.out⟩
  go_wp2_with fail
  with_reducible refine (szChangeS_any _ cs r1 _ (HAs.out.keep H1.out) OKs.out (by omega) (by omega)).mono ?_
  rintro e w2 ⟨r2, rfl, hr2, hs2, hn2, hb2⟩
  have H2 : Hid (Below w.heap.size w w2) := H1.out.trans (hb2.mono H1.out.size)
  clear hb2
  by_cases hneg2 : r2 < 0
  · go_wp2_with fail
    go_ret
    exact ⟨rfl, H2.out⟩
  have htot : (f.length : Int) + (cs.length : Int) ≤ 1048576 := by omega
  have hlf : f.length ≤ 1048576 := by omega
  have hls : cs.length ≤ 1048576 := by omega
  clear hr1 hs1 hn1 hneg1 hr2 hs2 hn2
  go_wp2_with fail
  with_reducible refine (toColumnS_any _ f _ (HAf.out.keep H2.out) hlf).mono ?_
  rintro e w3 ⟨pf, rfl, ho3, hb3, -⟩
  have S3 : Hid (w2.heap.size ≤ w3.heap.size) := hb3.size
  have H3 : Hid (Below w.heap.size w w3) := H2.out.trans (hb3.mono H2.out.size)
  have OPf3 : Hid (OwnC w2.heap.size w3 pf f) := ho3
  have ZPf3 := hide (Below.refl w3.heap.size w3)
  have BPf : Hid (∀ j, (pf).ownBlock = some j → w2.heap.size ≤ j) := OwnR.base ho3
  have TPf : Hid (∀ j, (pf).ownBlock = some j → j < w3.heap.size) := OwnR.top ho3
  clear ho3
  clear hb3
  go_wp2_with fail
  with_reducible refine (toChangeS_any _ cs _ (HAs.out.keep H3.out) hls).mono ?_
  rintro e w4 ⟨ps, rfl, ho4, hb4, -⟩
  have S4 : Hid (w3.heap.size ≤ w4.heap.size) := hb4.size
  have H4 : Hid (Below w.heap.size w w4) := H3.out.trans (hb4.mono H3.out.size)
  have ZPf4 := hide (ZPf3.out.trans (hb4.mono ZPf3.out.size))
  have OPs4 : Hid (OwnHx w3.heap.size w4 ps cs) := ho4
  have ZPs4 := hide (Below.refl w4.heap.size w4)
  have BPs : Hid (∀ j, (ps).ownBlock = some j → w3.heap.size ≤ j) := OwnR.base ho4
  have TPs : Hid (∀ j, (ps).ownBlock = some j → j < w4.heap.size) := OwnR.top ho4
  clear ho4
  clear ZPf3 hb4
  go_wp2_with fail
  with_reducible refine (HSP.out w4 pf ps (OwnC.recs (OwnC.keep OPf3.out ZPf4.out)) (OwnHx.recs (OwnHx.keep OPs4.out ZPs4.out))).mono ?_
  rintro e w5 ⟨vw, rfl, ho5, hb5⟩
  have S5 : Hid (w4.heap.size ≤ w5.heap.size) := hb5.size
  have H5 : Hid (Below w.heap.size w w5) := H4.out.trans (hb5.mono H4.out.size)
  have ZPf5 := hide (ZPf4.out.trans (hb5.mono ZPf4.out.size))
  have ZPs5 := hide (ZPs4.out.trans (hb5.mono ZPs4.out.size))
  have OW5 : Hid (OwnL w4.heap.size w5 vw R) := ho5
  have ZW5 := hide (Below.refl w5.heap.size w5)
  clear ho5
  clear ZPf4 ZPs4 hb5
  clear ZPf5 OPf3
  clear ZPs5 OPs4
  go_wp2_with fail
  with_reducible refine (toColumnS_any _ f _ (HAf.out.keep H5.out) hlf).mono ?_
  rintro e w6 ⟨xf, rfl, ho6, hb6, -⟩
  have S6 : Hid (w5.heap.size ≤ w6.heap.size) := hb6.size
  have H6 : Hid (Below w.heap.size w w6) := H5.out.trans (hb6.mono H5.out.size)
  have ZW6 := hide (ZW5.out.trans (hb6.mono ZW5.out.size))
  have OXf6 : Hid (OwnC w5.heap.size w6 xf f) := ho6
  have ZXf6 := hide (Below.refl w6.heap.size w6)
  have BXf : Hid (∀ j, (xf).ownBlock = some j → w5.heap.size ≤ j) := OwnR.base ho6
  have TXf : Hid (∀ j, (xf).ownBlock = some j → j < w6.heap.size) := OwnR.top ho6
  clear ho6
  clear ZW5 hb6
  go_wp2_with fail
  with_reducible refine (toChangeS_any _ cs _ (HAs.out.keep H6.out) hls).mono ?_
  rintro e w7 ⟨xs, rfl, ho7, hb7, -⟩
  have S7 : Hid (w6.heap.size ≤ w7.heap.size) := hb7.size
  have H7 : Hid (Below w.heap.size w w7) := H6.out.trans (hb7.mono H6.out.size)
  have ZW7 := hide (ZW6.out.trans (hb7.mono ZW6.out.size))
  have ZXf7 := hide (ZXf6.out.trans (hb7.mono ZXf6.out.size))
  have OXs7 : Hid (OwnHx w6.heap.size w7 xs cs) := ho7
  have ZXs7 := hide (Below.refl w7.heap.size w7)
  have BXs : Hid (∀ j, (xs).ownBlock = some j → w6.heap.size ≤ j) := OwnR.base ho7
  have TXs : Hid (∀ j, (xs).ownBlock = some j → j < w7.heap.size) := OwnR.top ho7
  clear ho7
  clear ZW6 ZXf6 hb7
  go_wp2_with fail
  with_reducible refine (HIM.out w7 xf xs (OwnC.recs (OwnC.keep OXf6.out ZXf7.out)) (OwnHx.recs (OwnHx.keep OXs7.out ZXs7.out)) (ht.keep H7.out)).mono ?_
  rintro e w8 ⟨vg, rfl, ho8, hb8⟩
  have S8 : Hid (w7.heap.size ≤ w8.heap.size) := hb8.size
  have H8 : Hid (Below w.heap.size w w8) := H7.out.trans (hb8.mono H7.out.size)
  have ZW8 := hide (ZW7.out.trans (hb8.mono ZW7.out.size))
  have ZXf8 := hide (ZXf7.out.trans (hb8.mono ZXf7.out.size))
  have ZXs8 := hide (ZXs7.out.trans (hb8.mono ZXs7.out.size))
  have OG8 : Hid (OwnL w7.heap.size w8 vg R) := ho8
  have ZG8 := hide (Below.refl w8.heap.size w8)
  clear ho8
  clear ZW7 ZXf7 ZXs7 hb8
  go_wp2_with fail
  with_reducible refine (eqColumnSS_same _ _ R _ (OwnL.lvs (OwnL.keep OG8.out ZG8.out)) (OwnL.lvs (OwnL.keep OW5.out ZW8.out))).mono ?_
  rintro e w9 ⟨rfl, hb9⟩
  have S9 : Hid (w8.heap.size ≤ w9.heap.size) := hb9.size
  have H9 : Hid (Below w.heap.size w w9) := H8.out.trans (hb9.mono H8.out.size)
  have ZW9 := hide (ZW8.out.trans (hb9.mono ZW8.out.size))
  have ZXf9 := hide (ZXf8.out.trans (hb9.mono ZXf8.out.size))
  have ZXs9 := hide (ZXs8.out.trans (hb9.mono ZXs8.out.size))
  have ZG9 := hide (ZG8.out.trans (hb9.mono ZG8.out.size))
  clear ZW8 ZXf8 ZXs8 ZG8 hb9
  go_wp2_with fail
  with_reducible refine (toColumnS_any _ f _ (HAf.out.keep H9.out) hlf).mono ?_
  rintro e w10 ⟨yf, rfl, ho10, hb10, -⟩
  have S10 : Hid (w9.heap.size ≤ w10.heap.size) := hb10.size
  have H10 : Hid (Below w.heap.size w w10) := H9.out.trans (hb10.mono H9.out.size)
  have ZW10 := hide (ZW9.out.trans (hb10.mono ZW9.out.size))
  have ZXf10 := hide (ZXf9.out.trans (hb10.mono ZXf9.out.size))
  have ZXs10 := hide (ZXs9.out.trans (hb10.mono ZXs9.out.size))
  have ZG10 := hide (ZG9.out.trans (hb10.mono ZG9.out.size))
  have OYf10 : Hid (OwnC w9.heap.size w10 yf f) := ho10
  have ZYf10 := hide (Below.refl w10.heap.size w10)
  have BYf : Hid (∀ j, (yf).ownBlock = some j → w9.heap.size ≤ j) := OwnR.base ho10
  have TYf : Hid (∀ j, (yf).ownBlock = some j → j < w10.heap.size) := OwnR.top ho10
  clear ho10
  clear ZW9 ZXf9 ZXs9 ZG9 hb10
  go_wp2_with fail
  with_reducible refine (eqColumnS_same _ _ f _ (OwnC.recs (OwnC.keep OXf6.out ZXf10.out)) (OwnC.recs (OwnC.keep OYf10.out ZYf10.out))).mono ?_
  rintro e w11 ⟨rfl, hb11⟩
  have S11 : Hid (w10.heap.size ≤ w11.heap.size) := hb11.size
  have H11 : Hid (Below w.heap.size w w11) := H10.out.trans (hb11.mono H10.out.size)
  have ZW11 := hide (ZW10.out.trans (hb11.mono ZW10.out.size))
  have ZXf11 := hide (ZXf10.out.trans (hb11.mono ZXf10.out.size))
  have ZXs11 := hide (ZXs10.out.trans (hb11.mono ZXs10.out.size))
  have ZG11 := hide (ZG10.out.trans (hb11.mono ZG10.out.size))
  have ZYf11 := hide (ZYf10.out.trans (hb11.mono ZYf10.out.size))
  clear ZW10 ZXf10 ZXs10 ZG10 ZYf10 hb11
  clear ZYf11 OYf10
  go_wp2_with fail
  with_reducible refine (toChangeS_any _ cs _ (HAs.out.keep H11.out) hls).mono ?_
  rintro e w12 ⟨ys, rfl, ho12, hb12, -⟩
  have S12 : Hid (w11.heap.size ≤ w12.heap.size) := hb12.size
  have H12 : Hid (Below w.heap.size w w12) := H11.out.trans (hb12.mono H11.out.size)
  have ZW12 := hide (ZW11.out.trans (hb12.mono ZW11.out.size))
  have ZXf12 := hide (ZXf11.out.trans (hb12.mono ZXf11.out.size))
  have ZXs12 := hide (ZXs11.out.trans (hb12.mono ZXs11.out.size))
  have ZG12 := hide (ZG11.out.trans (hb12.mono ZG11.out.size))
  have OYs12 : Hid (OwnHx w11.heap.size w12 ys cs) := ho12
  have ZYs12 := hide (Below.refl w12.heap.size w12)
  have BYs : Hid (∀ j, (ys).ownBlock = some j → w11.heap.size ≤ j) := OwnR.base ho12
  have TYs : Hid (∀ j, (ys).ownBlock = some j → j < w12.heap.size) := OwnR.top ho12
  clear ho12
  clear ZW11 ZXf11 ZXs11 ZG11 hb12
  go_wp2_with fail
  with_reducible refine (eqChangeS_same _ _ cs _ (OwnHx.recs (OwnHx.keep OXs7.out ZXs12.out)) (OwnHx.recs (OwnHx.keep OYs12.out ZYs12.out))).mono ?_
  rintro e w13 ⟨rfl, hb13⟩
  have S13 : Hid (w12.heap.size ≤ w13.heap.size) := hb13.size
  have H13 : Hid (Below w.heap.size w w13) := H12.out.trans (hb13.mono H12.out.size)
  have ZW13 := hide (ZW12.out.trans (hb13.mono ZW12.out.size))
  have ZXf13 := hide (ZXf12.out.trans (hb13.mono ZXf12.out.size))
  have ZXs13 := hide (ZXs12.out.trans (hb13.mono ZXs12.out.size))
  have ZG13 := hide (ZG12.out.trans (hb13.mono ZG12.out.size))
  have ZYs13 := hide (ZYs12.out.trans (hb13.mono ZYs12.out.size))
  clear ZW12 ZXf12 ZXs12 ZG12 ZYs12 hb13
  clear ZYs13 OYs12
  go_wp2_with fail
  with_reducible refine (markC_one 1 1 rfl _ _ f _ (OwnC.toRx (OwnC.keep OXf6.out ZXf13.out)) (by omega) (by omega)).mono ?_
  rintro e w14 ⟨rfl, hg14, hm14⟩
  have S14 : Hid (w13.heap.size ≤ w14.heap.size) := hg14.size
  have H14 : Hid (Below w.heap.size w w14) := below_own H13.out hg14 (fun j e => by have := BXf.out j e; have := H5.out.size; have := S6.out; have := S7.out; have := S8.out; omega)
  have ZW14 : Hid (Below w5.heap.size w5 w14) := below_own ZW13.out hg14 (fun j e => by have := BXf.out j e; have := H5.out.size; have := S6.out; have := S7.out; have := S8.out; omega)
  clear ZW13
  have OXs14 : Hid (OwnHx w6.heap.size w14 xs cs) := OwnR.kept2 (OwnHx.keep OXs7.out ZXs13.out) hg14 (fun j h1 h2 => by have := TXf.out j h2; have := BXs.out j h1; have := H5.out.size; have := S6.out; have := S7.out; have := S8.out; omega)
  have ZXs14 := hide (Below.refl w14.heap.size w14)
  clear OXs7
  clear ZXs13
  have OG14 : Hid (OwnL w7.heap.size w14 vg R) := OwnL.lowBy (OwnL.keep OG8.out ZG13.out) hg14 (fun j e => by have := TXf.out j e; have := H5.out.size; have := S6.out; have := S7.out; have := S8.out; omega)
  have ZG14 := hide (Below.refl w14.heap.size w14)
  clear OG8
  clear ZG13
  clear hg14 hm14 OXf6 ZXf13
  go_wp2_with fail
  with_reducible refine (markH_one (1 + 4 * (f.length : Int)) (1 + 4 * f.length) (by omega) _ _ cs _ (OwnHx.toRx (OwnHx.keep OXs14.out ZXs14.out)) (by omega) (by omega)).mono ?_
  rintro e w15 ⟨rfl, hg15, hm15⟩
  have S15 : Hid (w14.heap.size ≤ w15.heap.size) := hg15.size
  have H15 : Hid (Below w.heap.size w w15) := below_own H14.out hg15 (fun j e => by have := BXs.out j e; have := H5.out.size; have := S6.out; have := S7.out; have := S8.out; omega)
  have ZW15 : Hid (Below w5.heap.size w5 w15) := below_own ZW14.out hg15 (fun j e => by have := BXs.out j e; have := H5.out.size; have := S6.out; have := S7.out; have := S8.out; omega)
  clear ZW14
  have OG15 : Hid (OwnL w7.heap.size w15 vg R) := OwnL.lowBy (OwnL.keep OG14.out ZG14.out) hg15 (fun j e => by have := TXs.out j e; have := H5.out.size; have := S6.out; have := S7.out; have := S8.out; omega)
  have ZG15 := hide (Below.refl w15.heap.size w15)
  clear OG14
  clear ZG14
  clear hg15 hm15 OXs14 ZXs14
  have hm1 : ¬ (((1 : Int) + 4 * (f.length : Int) + 6 * (cs.length : Int)) < 0) := by omega
  have hm3 : decide (((1 : Int) + 4 * (f.length : Int) + 6 * (cs.length : Int)) < 0) = false := decide_eq_false hm1
  go_wp2_with fail
  with_reducible refine (eqColumnSS_same _ _ R _ (OwnL.lvs (OwnL.keep OG15.out ZG15.out)) (OwnL.lvs (OwnL.keep OW5.out ZW15.out))).mono ?_
  rintro e w16 ⟨rfl, hb16⟩
  have S16 : Hid (w15.heap.size ≤ w16.heap.size) := hb16.size
  have H16 : Hid (Below w.heap.size w w16) := H15.out.trans (hb16.mono H15.out.size)
  have ZW16 := hide (ZW15.out.trans (hb16.mono ZW15.out.size))
  have ZG16 := hide (ZG15.out.trans (hb16.mono ZG15.out.size))
  clear ZW15 ZG15 hb16
  go_wp2_with fail
  with_reducible refine (markL_one 1 1 rfl w7.heap.size _ R _ (OwnL.keep OG15.out ZG16.out) (by have := S8.out; have := S9.out; have := S10.out; have := S11.out; have := S12.out; have := S13.out; have := S14.out; have := S15.out; have := S16.out; omega) (by omega) (by omega)).mono ?_
  rintro e w17 ⟨rfl, hb17, hm17⟩
  have H17 : Hid (Below w.heap.size w w17) := H16.out.trans (hb17.mono (by have := H5.out.size; have := S6.out; have := S7.out; have := S8.out; omega))
  have ZW17 : Hid (Below w5.heap.size w5 w17) := ZW16.out.trans (hb17.mono (by have := H5.out.size; have := S6.out; have := S7.out; have := S8.out; omega))
  have OM17 : Hid (OwnL w7.heap.size w17 vg (markL 1 R)) := hm17
  have ZM17 := hide (Below.refl w17.heap.size w17)
  clear hm17 ZW16 ZG16 OG15
  have hk1 : ((1 : Int) + 4 * (totL R : Int) != 1 + 4 * (totL R : Int)) = false := by simp
  have hk2 : ¬ ((1 : Int) + 4 * (totL R : Int) < 0) := by omega
  have hk3 : decide ((1 : Int) + 4 * (totL R : Int) < 0) = false := decide_eq_false hk2
  go_wp2_with fail
  with_reducible refine (heldL_one _ R _ (OwnL.lvs (OwnL.keep OM17.out ZM17.out)) (by omega)).mono ?_
  rintro e w18 ⟨rfl, hb18⟩
  have S18 : Hid (w17.heap.size ≤ w18.heap.size) := hb18.size
  have H18 : Hid (Below w.heap.size w w18) := H17.out.trans (hb18.mono H17.out.size)
  have ZW18 := hide (ZW17.out.trans (hb18.mono ZW17.out.size))
  have ZM18 := hide (ZM17.out.trans (hb18.mono ZM17.out.size))
  clear ZW17 ZM17 hb18
  go_wp2_with fail
  with_reducible refine (toColumnS_any _ f _ (HAf.out.keep H18.out) hlf).mono ?_
  rintro e w19 ⟨qf, rfl, ho19, hb19, -⟩
  have S19 : Hid (w18.heap.size ≤ w19.heap.size) := hb19.size
  have H19 : Hid (Below w.heap.size w w19) := H18.out.trans (hb19.mono H18.out.size)
  have ZW19 := hide (ZW18.out.trans (hb19.mono ZW18.out.size))
  have ZM19 := hide (ZM18.out.trans (hb19.mono ZM18.out.size))
  have OQf19 : Hid (OwnC w18.heap.size w19 qf f) := ho19
  have ZQf19 := hide (Below.refl w19.heap.size w19)
  have BQf : Hid (∀ j, (qf).ownBlock = some j → w18.heap.size ≤ j) := OwnR.base ho19
  have TQf : Hid (∀ j, (qf).ownBlock = some j → j < w19.heap.size) := OwnR.top ho19
  clear ho19
  clear ZW18 ZM18 hb19
  go_wp2_with fail
  with_reducible refine (toChangeS_any _ cs _ (HAs.out.keep H19.out) hls).mono ?_
  rintro e w20 ⟨qs, rfl, ho20, hb20, -⟩
  have S20 : Hid (w19.heap.size ≤ w20.heap.size) := hb20.size
  have H20 : Hid (Below w.heap.size w w20) := H19.out.trans (hb20.mono H19.out.size)
  have ZW20 := hide (ZW19.out.trans (hb20.mono ZW19.out.size))
  have ZM20 := hide (ZM19.out.trans (hb20.mono ZM19.out.size))
  have ZQf20 := hide (ZQf19.out.trans (hb20.mono ZQf19.out.size))
  have OQs20 : Hid (OwnHx w19.heap.size w20 qs cs) := ho20
  have ZQs20 := hide (Below.refl w20.heap.size w20)
  have BQs : Hid (∀ j, (qs).ownBlock = some j → w19.heap.size ≤ j) := OwnR.base ho20
  have TQs : Hid (∀ j, (qs).ownBlock = some j → j < w20.heap.size) := OwnR.top ho20
  clear ho20
  clear ZW19 ZM19 ZQf19 hb20
  go_wp2_with fail
  with_reducible refine (HIM.out w20 qf qs (OwnC.recs (OwnC.keep OQf19.out ZQf20.out)) (OwnHx.recs (OwnHx.keep OQs20.out ZQs20.out)) (ht.keep H20.out)).mono ?_
  rintro e w21 ⟨vh, rfl, ho21, hb21⟩
  have S21 : Hid (w20.heap.size ≤ w21.heap.size) := hb21.size
  have H21 : Hid (Below w.heap.size w w21) := H20.out.trans (hb21.mono H20.out.size)
  have ZW21 := hide (ZW20.out.trans (hb21.mono ZW20.out.size))
  have ZM21 := hide (ZM20.out.trans (hb21.mono ZM20.out.size))
  have ZQf21 := hide (ZQf20.out.trans (hb21.mono ZQf20.out.size))
  have ZQs21 := hide (ZQs20.out.trans (hb21.mono ZQs20.out.size))
  have OK21 : Hid (OwnL w20.heap.size w21 vh R) := ho21
  have ZK21 := hide (Below.refl w21.heap.size w21)
  clear ho21
  clear ZW20 ZM20 ZQf20 ZQs20 hb21
  clear ZQf21 OQf19
  clear ZQs21 OQs20
  go_wp2_with fail
  with_reducible refine (eqColumnSS_same _ _ R _ (OwnL.lvs (OwnL.keep OK21.out ZK21.out)) (OwnL.lvs (OwnL.keep OW5.out ZW21.out))).mono ?_
  rintro e w22 ⟨rfl, hb22⟩
  have S22 : Hid (w21.heap.size ≤ w22.heap.size) := hb22.size
  have H22 : Hid (Below w.heap.size w w22) := H21.out.trans (hb22.mono H21.out.size)
  have ZW22 := hide (ZW21.out.trans (hb22.mono ZW21.out.size))
  have ZM22 := hide (ZM21.out.trans (hb22.mono ZM21.out.size))
  have ZK22 := hide (ZK21.out.trans (hb22.mono ZK21.out.size))
  clear ZW21 ZM21 ZK21 hb22
  clear ZK22 OK21
  clear ZW22 OW5
  go_wp2_with fail
  with_reducible refine (heldL_one _ R _ (OwnL.lvs (OwnL.keep OM17.out ZM22.out)) (by omega)).mono ?_
  rintro e w23 ⟨rfl, hb23⟩
  have S23 : Hid (w22.heap.size ≤ w23.heap.size) := hb23.size
  have H23 : Hid (Below w.heap.size w w23) := H22.out.trans (hb23.mono H22.out.size)
  have ZM23 := hide (ZM22.out.trans (hb23.mono ZM22.out.size))
  clear ZM22 hb23
  go_wp2_with fail
  go_ret
  exact ⟨rfl, H23.out⟩
end Go.Proofs.YtdijcdadcbhipaaDoor
