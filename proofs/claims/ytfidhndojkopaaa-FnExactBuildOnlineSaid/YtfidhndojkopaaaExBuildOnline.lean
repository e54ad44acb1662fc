/-
  The walk of FnExactBuildOnline.
-/
import Derived.Test.YtfidhndojkopaaaSDrain
import Derived.Test.YtfidhndojkopaaaMarkI
set_option linter.all false
namespace Go.Proofs.Ytfidhndojkopaaa
open Go.RowKit
set_option maxHeartbeats 16000000 in
set_option maxRecDepth 100000 in
theorem exactBuildOnline_walk (v : Value) (c : List Itm) (u : Value) (l : List RMove) (w : World) (h : Itms w v c) (h' : Moves w u l) :
    Calls Try.prog 7 #[v, u] w fun e w' => e = .returned (.bool true) ∧ Below w.heap.size w w' := by
  have E0 := hide h
  have E1 := hide h'
  clear h h'
  go_enter Try.func7, Try.ntmps7
  go_wp2_with fail
  refine (szItemS_any v c 1048576 w E0.out (by omega) (by omega)).mono ?_
  rintro e1 w1 ⟨r, rfl, hr0, hr1, hr2, hb⟩
  have H := hide hb
  clear hb
  by_cases hr : r < 0
  · go_wp2_with fail
    go_ret
    exact ⟨rfl, H.out⟩
  have hn : c.length ≤ 1048576 := by omega
  go_wp2_with fail
  refine (szMoveS_any u l r w1 (E1.out.keep H.out) (by omega) (by omega)).mono ?_
  rintro e1 w2 ⟨r2, rfl, hq0, hq1, hq2, hb⟩
  have H : Hid (Below w.heap.size w w2) := H.out.trans (hb.mono H.out.size)
  clear hb
  by_cases hr' : r2 < 0
  · go_wp2_with fail
    go_ret
    exact ⟨rfl, H.out⟩
  have hn' : l.length ≤ 1048576 := by omega
  go_wp2_with fail
  refine (toItemS_any v c _ (E0.out.keep H.out) hn).mono ?_
  rintro e1 w3 ⟨_, rfl, hv, hb, ga, capa, csa, rfl, hga, hca⟩
  have H : Hid (Below w.heap.size w w3) := H.out.trans (hb.mono H.out.size)
  have mw3 := hb.size
  have Ra := hide (RowItem.new hv hca)
  have hlta : ga < w3.heap.size := lt_block hca
  clear hv hb hca
  clear hr0 hr1 hr2 hr hq0 hq1 hq2 hr'
  go_wp2_with fail
  refine (toMoveS_any u l _ (E1.out.keep H.out) hn').mono ?_
  rintro e1 w4 ⟨_, rfl, hv, hb, gb, capb, csb, rfl, hgb, hcb, hsb, hlb, hkb⟩
  have H : Hid (Below w.heap.size w w4) := H.out.trans (hb.mono H.out.size)
  have Ra := hide (Ra.out.keep hb)
  have mw4 := hb.size
  have Rb := hide hv
  have Xb := hide hcb
  have hltb : gb < w4.heap.size := lt_block hcb
  clear hv hb hcb
  have hsz1 := H.out.size
  go_wp2_with fail
  refine (sBuildOnline_any _ _ c l _ Ra.out.rows nilOk_some Rb.out).mono ?_
  rintro e1 w5 ⟨v1, r1, rfl, hrel, ho, hb⟩
  have H : Hid (Below w.heap.size w w5) := H.out.trans (hb.mono H.out.size)
  have Ra := hide (Ra.out.keep hb)
  have Rb := hide (Rb.out.keep hb)
  have Xb := hide (blk_own hb Xb.out)
  have mw5 := hb.size
  obtain ⟨g1, hg1, hl1, hr1⟩ := OwnI.row ho
  have V1 := hide hr1
  clear hr1 ho
  have CK := hide hrel
  have hlen : r1.length ≤ 200 := BldOf.len hrel
  clear hrel hb
  clear Ra
  clear Rb
  clear Xb
  go_wp2_with fail
  refine (toItemS_any v c _ (E0.out.keep H.out) hn).mono ?_
  rintro e1 w6 ⟨_, rfl, hv, hb, gx, capx, csx, rfl, hgx, hcx⟩
  have H : Hid (Below w.heap.size w w6) := H.out.trans (hb.mono H.out.size)
  have V1 := hide (V1.out.keep hb)
  have mw6 := hb.size
  have Rx := hide (RowItem.new hv hcx)
  have hltx : gx < w6.heap.size := lt_block hcx
  clear hv hb hcx
  go_wp2_with fail
  refine (toMoveS_any u l _ (E1.out.keep H.out) hn').mono ?_
  rintro e1 w7 ⟨_, rfl, hv, hb, gy, capy, csy, rfl, hgy, hcy, hsy, hly, hky⟩
  have H : Hid (Below w.heap.size w w7) := H.out.trans (hb.mono H.out.size)
  have V1 := hide (V1.out.keep hb)
  have Rx := hide (Rx.out.keep hb)
  have mw7 := hb.size
  have Ry := hide hv
  have Xy := hide hcy
  have hlty : gy < w7.heap.size := lt_block hcy
  clear hv hb hcy
  have hsz2 := H.out.size
  go_wp2_with fail
  refine (iBuildOnline_any _ _ c l _ Rx.out.rows Ry.out).mono ?_
  rintro e1 w8 ⟨v2, r2, rfl, hrel, ho, hb⟩
  have H : Hid (Below w.heap.size w w8) := H.out.trans (hb.mono H.out.size)
  have V1 := hide (V1.out.keep hb)
  have Rx := hide (Rx.out.keep hb)
  have Ry := hide (Ry.out.keep hb)
  have Xy := hide (blk_own hb Xy.out)
  have mw8 := hb.size
  obtain ⟨g2, hg2, hl2, hr2⟩ := OwnI.row ho
  have V2 := hide hr2
  clear hr2 ho
  obtain rfl := BldOf.uniq CK.out hrel
  clear hrel hb
  go_wp2_with fail
  refine (eqItemS_same _ _ r1 _ V2.out.rows V1.out.rows).mono ?_
  rintro e1 w9 ⟨rfl, hb⟩
  have H : Hid (Below w.heap.size w w9) := H.out.trans (hb.mono H.out.size)
  have V1 := hide (V1.out.keep hb)
  have Rx := hide (Rx.out.keep hb)
  have Ry := hide (Ry.out.keep hb)
  have Xy := hide (blk_own hb Xy.out)
  have V2 := hide (V2.out.keep hb)
  have mw9 := hb.size
  clear hb
  go_wp2_with fail
  refine (toItemS_any v c _ (E0.out.keep H.out) hn).mono ?_
  rintro e1 w10 ⟨_, rfl, hv, hb, ge, cape, cse, rfl, hge, hce⟩
  have H : Hid (Below w.heap.size w w10) := H.out.trans (hb.mono H.out.size)
  have V1 := hide (V1.out.keep hb)
  have Rx := hide (Rx.out.keep hb)
  have Ry := hide (Ry.out.keep hb)
  have Xy := hide (blk_own hb Xy.out)
  have V2 := hide (V2.out.keep hb)
  have mw10 := hb.size
  have Re := hide (RowItem.new hv hce)
  have hlte : ge < w10.heap.size := lt_block hce
  clear hv hb hce
  go_wp2_with fail
  refine (eqItemS_same _ _ c _ Rx.out.rows Re.out.rows).mono ?_
  rintro e1 w11 ⟨rfl, hb⟩
  have H : Hid (Below w.heap.size w w11) := H.out.trans (hb.mono H.out.size)
  have V1 := hide (V1.out.keep hb)
  have Rx := hide (Rx.out.keep hb)
  have Ry := hide (Ry.out.keep hb)
  have Xy := hide (blk_own hb Xy.out)
  have V2 := hide (V2.out.keep hb)
  have Re := hide (Re.out.keep hb)
  have mw11 := hb.size
  clear hb
  clear Re
  go_wp2_with fail
  refine (toMoveS_any u l _ (E1.out.keep H.out) hn').mono ?_
  rintro e1 w12 ⟨_, rfl, hv, hb, gf, capf, csf, rfl, hgf, hcf, hsf, hlf, hkf⟩
  have H : Hid (Below w.heap.size w w12) := H.out.trans (hb.mono H.out.size)
  have V1 := hide (V1.out.keep hb)
  have Rx := hide (Rx.out.keep hb)
  have Ry := hide (Ry.out.keep hb)
  have Xy := hide (blk_own hb Xy.out)
  have V2 := hide (V2.out.keep hb)
  have mw12 := hb.size
  have Rf := hide hv
  have Xf := hide hcf
  have hltf : gf < w12.heap.size := lt_block hcf
  clear hv hb hcf
  go_wp2_with fail
  refine (eqMoveS_same _ _ l _ Ry.out Rf.out).mono ?_
  rintro e1 w13 ⟨rfl, hb⟩
  have H : Hid (Below w.heap.size w w13) := H.out.trans (hb.mono H.out.size)
  have V1 := hide (V1.out.keep hb)
  have Rx := hide (Rx.out.keep hb)
  have Ry := hide (Ry.out.keep hb)
  have Xy := hide (blk_own hb Xy.out)
  have V2 := hide (V2.out.keep hb)
  have Rf := hide (Rf.out.keep hb)
  have Xf := hide (blk_own hb Xf.out)
  have mw13 := hb.size
  clear hb
  clear Rf
  clear Xf
  clear Ry
  have hsm := H.out.size
  go_wp2_with fail
  refine (markItemS_row gx 1 _ c _ Rx.out (by omega) (by omega)).mono ?_
  rintro e1 w14 ⟨rfl, hg, -⟩
  have H : Hid (Below w.heap.size w w14) := H.out.grown hg hsm (fun q hq => by cases hq; omega)
  clear Rx
  have V1 := hide (V1.out.kept hg (fun hne => by have := hl1 hne; omega))
  have Xy := hide (blk_by hg Xy.out (by omega))
  have V2 := hide (V2.out.kept hg (fun hne => by have := hl2 hne; omega))
  have mw14 := hg.size
  clear hg hsm
  obtain ⟨p1, hp1⟩ : ∃ p, 1 + c.length * 2 = p := ⟨_, rfl⟩
  rw [hp1]
  have hsm := H.out.size
  go_wp2_with fail
  refine (markMoveS_any gy l.length capy p1 csy _ Xy.out hsy hly hky (by omega) (by omega)).mono ?_
  rintro e1 w15 ⟨rfl, hg⟩
  have H : Hid (Below w.heap.size w w15) := H.out.grown hg hsm (fun q hq => by cases hq; omega)
  clear Xy
  have V1 := hide (V1.out.kept hg (fun hne => by have := hl1 hne; omega))
  have V2 := hide (V2.out.kept hg (fun hne => by have := hl2 hne; omega))
  have mw15 := hg.size
  clear hg hsm
  go_wp2_with fail
  refine (eqItemS_same _ _ r1 _ V2.out.rows V1.out.rows).mono ?_
  rintro e1 w16 ⟨rfl, hb⟩
  have H : Hid (Below w.heap.size w w16) := H.out.trans (hb.mono H.out.size)
  have V1 := hide (V1.out.keep hb)
  have V2 := hide (V2.out.keep hb)
  have mw16 := hb.size
  clear hb
  have hsm := H.out.size
  go_wp2_with fail
  refine (markItemS_row g2 1 _ r1 _ V2.out (by omega) (by omega)).mono ?_
  rintro e1 w17 ⟨rfl, hg, hrow⟩
  have H : Hid (Below w.heap.size w w17) := H.out.grown hg hsm (fun q hq => by cases hq; omega)
  have V1 := hide (V1.out.kept hg (fun hne => by have := hl1 hne; omega))
  have V2 := hide hrow
  have mw17 := hg.size
  clear hg hsm hrow
  obtain ⟨D, hD⟩ : ∃ D, r1.length = D := ⟨_, rfl⟩
  rw [hD] at V2 hlen
  rw [hD]
  obtain ⟨S, hS⟩ : ∃ S, 1 + D * 2 = S := ⟨_, rfl⟩
  rw [hS]
  have hS1 : 1 ≤ S := by omega
  have HS := hide hS
  have HD := hide hD
  clear hS hD
  go_wp2_with fail
  refine (heldItemS_row g2 D 1 _ _ V2.out (by omega) (by omega)).mono ?_
  rintro e1 w18 ⟨rfl, hb⟩
  rw [HS.out]
  have H : Hid (Below w.heap.size w w18) := H.out.trans (hb.mono H.out.size)
  have V1 := hide (V1.out.keep hb)
  have V2 := hide (V2.out.keep hb)
  have mw18 := hb.size
  clear hb
  go_wp2_with fail
  refine (toItemS_any v c _ (E0.out.keep H.out) hn).mono ?_
  rintro e1 w19 ⟨_, rfl, hv, hb, gi, capi, csi, rfl, hgi, hci⟩
  have H : Hid (Below w.heap.size w w19) := H.out.trans (hb.mono H.out.size)
  have V1 := hide (V1.out.keep hb)
  have V2 := hide (V2.out.keep hb)
  have mw19 := hb.size
  have Ri := hide (RowItem.new hv hci)
  have hlti : gi < w19.heap.size := lt_block hci
  clear hv hb hci
  go_wp2_with fail
  refine (toMoveS_any u l _ (E1.out.keep H.out) hn').mono ?_
  rintro e1 w20 ⟨_, rfl, hv, hb, gj, capj, csj, rfl, hgj, hcj, hsj, hlj, hkj⟩
  have H : Hid (Below w.heap.size w w20) := H.out.trans (hb.mono H.out.size)
  have V1 := hide (V1.out.keep hb)
  have V2 := hide (V2.out.keep hb)
  have Ri := hide (Ri.out.keep hb)
  have mw20 := hb.size
  have Rj := hide hv
  have Xj := hide hcj
  have hltj : gj < w20.heap.size := lt_block hcj
  clear hv hb hcj
  have hsz3 := H.out.size
  go_wp2_with fail
  refine (iBuildOnline_any _ _ c l _ Ri.out.rows Rj.out).mono ?_
  rintro e1 w21 ⟨v3, r3, rfl, hrel, ho, hb⟩
  have H : Hid (Below w.heap.size w w21) := H.out.trans (hb.mono H.out.size)
  have V1 := hide (V1.out.keep hb)
  have V2 := hide (V2.out.keep hb)
  have Ri := hide (Ri.out.keep hb)
  have Rj := hide (Rj.out.keep hb)
  have Xj := hide (blk_own hb Xj.out)
  have mw21 := hb.size
  obtain ⟨g3, hg3, hl3, hr3⟩ := OwnI.row ho
  have V3 := hide hr3
  clear hr3 ho
  obtain rfl := BldOf.uniq CK.out hrel
  clear hrel hb
  clear Ri
  clear Rj
  clear Xj
  go_wp2_with fail
  refine (eqItemS_same _ _ r1 _ V3.out.rows V1.out.rows).mono ?_
  rintro e1 w22 ⟨rfl, hb⟩
  have H : Hid (Below w.heap.size w w22) := H.out.trans (hb.mono H.out.size)
  have V1 := hide (V1.out.keep hb)
  have V2 := hide (V2.out.keep hb)
  have V3 := hide (V3.out.keep hb)
  have mw22 := hb.size
  clear hb
  go_wp2_with fail
  refine (heldItemS_row g2 D 1 _ _ V2.out (by omega) (by omega)).mono ?_
  rintro e1 w23 ⟨rfl, hb⟩
  rw [HS.out]
  have H : Hid (Below w.heap.size w w23) := H.out.trans (hb.mono H.out.size)
  have V1 := hide (V1.out.keep hb)
  have V2 := hide (V2.out.keep hb)
  have V3 := hide (V3.out.keep hb)
  have mw23 := hb.size
  clear hb
  go_wp2_with fail
  go_ret
  exact ⟨rfl, H.out⟩
end Go.Proofs.Ytfidhndojkopaaa
