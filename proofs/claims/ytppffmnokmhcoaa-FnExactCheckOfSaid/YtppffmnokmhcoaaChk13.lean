/-
  The walk of FnExactCheckOf.
-/
import Derived.Test.YtppffmnokmhcoaaChk12
set_option linter.all false
namespace Go.Proofs.Ytppffmnokmhcoaa
open Go.RowKit
set_option maxHeartbeats 16000000 in
set_option maxRecDepth 100000 in
theorem exactCheckOf_walk (v : Value) (c : List RCell) (u : Value) (l : List RNote) (w : World) (h : Cells w v c) (h' : Notes w u l) :
    Calls Try.prog 3 #[v, u] w fun e w' => e = .returned (.bool true) ∧ Below w.heap.size w w' := by
  have E0 := hide h
  have E1 := hide h'
  clear h h'
  go_enter Try.func3, Try.ntmps3
  go_wp2_with fail
  refine (szCellS_any v c 1048576 w E0.out (by omega) (by omega)).mono ?_
  rintro e1 w1 ⟨r, rfl, hr0, hr1, hr2, hb⟩
  have H := hide hb
  clear hb
  by_cases hr : r < 0
  · go_wp2_with fail
    go_ret
    exact ⟨rfl, H.out⟩
  have hn : c.length ≤ 1048576 := by omega
  go_wp2_with fail
  refine (szNoteS_any u l r w1 (E1.out.keep H.out) (by omega) (by omega)).mono ?_
  rintro e1 w2 ⟨r2, rfl, hq0, hq1, hq2, hb⟩
  have H : Hid (Below w.heap.size w w2) := H.out.trans (hb.mono H.out.size)
  clear hb
  by_cases hr' : r2 < 0
  · go_wp2_with fail
    go_ret
    exact ⟨rfl, H.out⟩
  have hn' : l.length ≤ 1048576 := by omega
  go_wp2_with fail
  refine (toCellS_any v c _ (E0.out.keep H.out) hn).mono ?_
  rintro e1 w3 ⟨_, rfl, hv, hb, ga, capa, csa, rfl, hga, hca, hsa, hla, hka⟩
  have H : Hid (Below w.heap.size w w3) := H.out.trans (hb.mono H.out.size)
  have mw3 := hb.size
  have Ra := hide hv
  have Xa := hide hca
  have hlta : ga < w3.heap.size := lt_block hca
  clear hv hb hca
  clear hr0 hr1 hr2 hq0 hq1 hq2 hr hr'
  go_wp2_with fail
  refine (toNoteS_any u l _ (E1.out.keep H.out) hn').mono ?_
  rintro e1 w4 ⟨_, rfl, hv, hb, gb, capb, csb, rfl, hgb, hcb, hsb, hlb, hkb⟩
  have H : Hid (Below w.heap.size w w4) := H.out.trans (hb.mono H.out.size)
  have Ra := hide (Ra.out.keep hb)
  have Xa := hide (blk_own hb Xa.out)
  have mw4 := hb.size
  have Rb := hide hv
  have Xb := hide hcb
  have hltb : gb < w4.heap.size := lt_block hcb
  clear hv hb hcb
  have hs01 := H.out.size
  go_wp2_with fail
  refine (sCheckOf_any _ _ c l _ Ra.out Rb.out).mono ?_
  rintro e1 w5 ⟨d1, f1, a1, ds1, fs1, ac1, rfl, hck, hrows, hb⟩
  have H : Hid (Below w.heap.size w w5) := H.out.trans (hb.mono H.out.size)
  have Ra := hide (Ra.out.keep hb)
  have Xa := hide (blk_own hb Xa.out)
  have Rb := hide (Rb.out.keep hb)
  have Xb := hide (blk_own hb Xb.out)
  have mw5 := hb.size
  obtain ⟨d1p, d1n, d1c, rfl⟩ := own_slice (show OwnN _ w5 d1 _ from hrows.1.1)
  obtain ⟨f1p, f1n, f1c, rfl⟩ := own_slice (show OwnN _ w5 f1 _ from hrows.1.2.1)
  obtain ⟨a1p, a1n, a1c, rfl⟩ := own_slice (show OwnN _ w5 a1 _ from hrows.2.1)
  have T1 := hide hrows.trip
  have CK := hide hck
  have CL := hide (ckOf_len hck)
  clear hrows hck hb
  have hb : Below w5.heap.size w5 (w5.alloc (.cells #[.slice d1p d1n d1c, .slice f1p f1n f1c, .slice a1p a1n a1c] 28)) := (Below.refl _ _).alloc (Nat.le_refl _) _
  have Xb1 := hide (blk_alloc w5 (.cells #[.slice d1p d1n d1c, .slice f1p f1n f1c, .slice a1p a1n a1c] 28))
  have H : Hid (Below w.heap.size w (w5.alloc (.cells #[.slice d1p d1n d1c, .slice f1p f1n f1c, .slice a1p a1n a1c] 28))) := H.out.trans (hb.mono H.out.size)
  have Ra := hide (Ra.out.keep hb)
  have Xa := hide (blk_own hb Xa.out)
  have Rb := hide (Rb.out.keep hb)
  have Xb := hide (blk_own hb Xb.out)
  have T1 := hide (T1.out.keep hb)
  have hlt1 : w5.heap.size < (w5.alloc (.cells #[.slice d1p d1n d1c, .slice f1p f1n f1c, .slice a1p a1n a1c] 28)).heap.size := lt_block Xb1.out
  clear hb
  clear Ra
  clear Xa
  clear Rb
  clear Xb
  go_wp2_with fail
  refine (toCellS_any v c _ (E0.out.keep H.out) hn).mono ?_
  rintro e1 w7 ⟨_, rfl, hv, hb, gx, capx, csx, rfl, hgx, hcx, hsx, hlx, hkx⟩
  have H : Hid (Below w.heap.size w w7) := H.out.trans (hb.mono H.out.size)
  have T1 := hide (T1.out.keep hb)
  have Xb1 := hide (blk_own hb Xb1.out)
  have mw7 := hb.size
  have Rx := hide hv
  have Xx := hide hcx
  have hltx : gx < w7.heap.size := lt_block hcx
  clear hv hb hcx
  go_wp2_with fail
  refine (toNoteS_any u l _ (E1.out.keep H.out) hn').mono ?_
  rintro e1 w8 ⟨_, rfl, hv, hb, gy, capy, csy, rfl, hgy, hcy, hsy, hly, hky⟩
  have H : Hid (Below w.heap.size w w8) := H.out.trans (hb.mono H.out.size)
  have T1 := hide (T1.out.keep hb)
  have Xb1 := hide (blk_own hb Xb1.out)
  have Rx := hide (Rx.out.keep hb)
  have Xx := hide (blk_own hb Xx.out)
  have mw8 := hb.size
  have Ry := hide hv
  have Xy := hide hcy
  have hlty : gy < w8.heap.size := lt_block hcy
  clear hv hb hcy
  have hs02 := H.out.size
  go_wp2_with fail
  refine (iCheckOf_any _ _ c l _ Rx.out Ry.out).mono ?_
  rintro e1 w9 ⟨d2, f2, a2, ds2, fs2, ac2, rfl, hck, hrows, hb⟩
  have H : Hid (Below w.heap.size w w9) := H.out.trans (hb.mono H.out.size)
  have T1 := hide (T1.out.keep hb)
  have Xb1 := hide (blk_own hb Xb1.out)
  have Rx := hide (Rx.out.keep hb)
  have Xx := hide (blk_own hb Xx.out)
  have Ry := hide (Ry.out.keep hb)
  have Xy := hide (blk_own hb Xy.out)
  have mw9 := hb.size
  obtain ⟨d2p, d2n, d2c, rfl⟩ := own_slice (show OwnN _ w9 d2 _ from hrows.1.1)
  obtain ⟨f2p, f2n, f2c, rfl⟩ := own_slice (show OwnN _ w9 f2 _ from hrows.1.2.1)
  obtain ⟨a2p, a2n, a2c, rfl⟩ := own_slice (show OwnN _ w9 a2 _ from hrows.2.1)
  have O2 := hide hrows
  obtain ⟨rfl, rfl, rfl⟩ := ckOf_same hck CK.out
  clear hrows hck hb
  have hb : Below w9.heap.size w9 (w9.alloc (.cells #[.slice d2p d2n d2c, .slice f2p f2n f2c, .slice a2p a2n a2c] 28)) := (Below.refl _ _).alloc (Nat.le_refl _) _
  have Xb2 := hide (blk_alloc w9 (.cells #[.slice d2p d2n d2c, .slice f2p f2n f2c, .slice a2p a2n a2c] 28))
  have H : Hid (Below w.heap.size w (w9.alloc (.cells #[.slice d2p d2n d2c, .slice f2p f2n f2c, .slice a2p a2n a2c] 28))) := H.out.trans (hb.mono H.out.size)
  have T1 := hide (T1.out.keep hb)
  have Xb1 := hide (blk_own hb Xb1.out)
  have Rx := hide (Rx.out.keep hb)
  have Xx := hide (blk_own hb Xx.out)
  have Ry := hide (Ry.out.keep hb)
  have Xy := hide (blk_own hb Xy.out)
  have O2 := hide (O2.out.keep hb)
  have hlt2 : w9.heap.size < (w9.alloc (.cells #[.slice d2p d2n d2c, .slice f2p f2n f2c, .slice a2p a2n a2c] 28)).heap.size := lt_block Xb2.out
  clear hb
  obtain ⟨ca0, ca1, ca2⟩ := cellsA3 Xb2.out
  obtain ⟨cb0, cb1, cb2⟩ := cellsA3 Xb1.out
  go_wp2_with fail
  refine (eqCheck_same _ _ _ _ _ _ ds1 fs1 ac1 _ O2.out.1.1.nums O2.out.1.2.1.nums O2.out.2.1.nums T1.out.nums.1 T1.out.nums.2.1 T1.out.nums.2.2).mono ?_
  rintro e1 w11 ⟨rfl, hb⟩
  have H : Hid (Below w.heap.size w w11) := H.out.trans (hb.mono H.out.size)
  have T1 := hide (T1.out.keep hb)
  have Xb1 := hide (blk_own hb Xb1.out)
  have Rx := hide (Rx.out.keep hb)
  have Xx := hide (blk_own hb Xx.out)
  have Ry := hide (Ry.out.keep hb)
  have Xy := hide (blk_own hb Xy.out)
  have O2 := hide (O2.out.keep hb)
  have Xb2 := hide (blk_own hb Xb2.out)
  have mw11 := hb.size
  clear hb ca0 ca1 ca2 cb0 cb1 cb2
  go_wp2_with fail
  refine (toCellS_any v c _ (E0.out.keep H.out) hn).mono ?_
  rintro e1 w12 ⟨_, rfl, hv, hb, ge, cape, cse, rfl, hge, hce, hse, hle, hke⟩
  have H : Hid (Below w.heap.size w w12) := H.out.trans (hb.mono H.out.size)
  have T1 := hide (T1.out.keep hb)
  have Xb1 := hide (blk_own hb Xb1.out)
  have Rx := hide (Rx.out.keep hb)
  have Xx := hide (blk_own hb Xx.out)
  have Ry := hide (Ry.out.keep hb)
  have Xy := hide (blk_own hb Xy.out)
  have O2 := hide (O2.out.keep hb)
  have Xb2 := hide (blk_own hb Xb2.out)
  have mw12 := hb.size
  have Re := hide hv
  have Xe := hide hce
  have hlte : ge < w12.heap.size := lt_block hce
  clear hv hb hce
  go_wp2_with fail
  refine (eqCellS_same _ _ c _ Rx.out Re.out).mono ?_
  rintro e1 w13 ⟨rfl, hb⟩
  have H : Hid (Below w.heap.size w w13) := H.out.trans (hb.mono H.out.size)
  have T1 := hide (T1.out.keep hb)
  have Xb1 := hide (blk_own hb Xb1.out)
  have Rx := hide (Rx.out.keep hb)
  have Xx := hide (blk_own hb Xx.out)
  have Ry := hide (Ry.out.keep hb)
  have Xy := hide (blk_own hb Xy.out)
  have O2 := hide (O2.out.keep hb)
  have Xb2 := hide (blk_own hb Xb2.out)
  have Re := hide (Re.out.keep hb)
  have Xe := hide (blk_own hb Xe.out)
  have mw13 := hb.size
  clear hb
  clear Re
  clear Xe
  go_wp2_with fail
  refine (toNoteS_any u l _ (E1.out.keep H.out) hn').mono ?_
  rintro e1 w14 ⟨_, rfl, hv, hb, gf, capf, csf, rfl, hgf, hcf, hsf, hlf, hkf⟩
  have H : Hid (Below w.heap.size w w14) := H.out.trans (hb.mono H.out.size)
  have T1 := hide (T1.out.keep hb)
  have Xb1 := hide (blk_own hb Xb1.out)
  have Rx := hide (Rx.out.keep hb)
  have Xx := hide (blk_own hb Xx.out)
  have Ry := hide (Ry.out.keep hb)
  have Xy := hide (blk_own hb Xy.out)
  have O2 := hide (O2.out.keep hb)
  have Xb2 := hide (blk_own hb Xb2.out)
  have mw14 := hb.size
  have Rf := hide hv
  have Xf := hide hcf
  have hltf : gf < w14.heap.size := lt_block hcf
  clear hv hb hcf
  go_wp2_with fail
  refine (eqNoteS_same _ _ l _ Ry.out Rf.out).mono ?_
  rintro e1 w15 ⟨rfl, hb⟩
  have H : Hid (Below w.heap.size w w15) := H.out.trans (hb.mono H.out.size)
  have T1 := hide (T1.out.keep hb)
  have Xb1 := hide (blk_own hb Xb1.out)
  have Rx := hide (Rx.out.keep hb)
  have Xx := hide (blk_own hb Xx.out)
  have Ry := hide (Ry.out.keep hb)
  have Xy := hide (blk_own hb Xy.out)
  have O2 := hide (O2.out.keep hb)
  have Xb2 := hide (blk_own hb Xb2.out)
  have Rf := hide (Rf.out.keep hb)
  have Xf := hide (blk_own hb Xf.out)
  have mw15 := hb.size
  clear hb
  clear Rf
  clear Xf
  clear Rx
  clear Ry
  have hsm := H.out.size
  go_wp2_with fail
  refine (markCellS_any gx c.length capx 1 csx _ Xx.out hsx hlx hkx (by omega) (by omega)).mono ?_
  rintro e1 w16 ⟨rfl, hg⟩
  have H : Hid (Below w.heap.size w w16) := H.out.grown hg hsm (fun q hq => by cases hq; omega)
  have T1 := hide (T1.out.kept hg (by omega))
  have Xb1 := hide (blk_by hg Xb1.out (by omega))
  have Xy := hide (blk_by hg Xy.out (by omega))
  have O2 := hide (O2.out.kept hg (by omega))
  have Xb2 := hide (blk_by hg Xb2.out (by omega))
  have mw16 := hg.size
  clear hg hsm
  clear Xx
  obtain ⟨p1, hp1⟩ : ∃ p, 1 + 2 * c.length = p := ⟨_, rfl⟩
  rw [hp1]
  have hsm := H.out.size
  go_wp2_with fail
  refine (markNoteS_any gy l.length capy p1 csy _ Xy.out hsy hly hky (by omega) (by omega)).mono ?_
  rintro e1 w17 ⟨rfl, hg⟩
  have H : Hid (Below w.heap.size w w17) := H.out.grown hg hsm (fun q hq => by cases hq; omega)
  have T1 := hide (T1.out.kept hg (by omega))
  have Xb1 := hide (blk_by hg Xb1.out (by omega))
  have O2 := hide (O2.out.kept hg (by omega))
  have Xb2 := hide (blk_by hg Xb2.out (by omega))
  have mw17 := hg.size
  clear hg hsm
  clear Xy
  obtain ⟨ca0, ca1, ca2⟩ := cellsA3 Xb2.out
  obtain ⟨cb0, cb1, cb2⟩ := cellsA3 Xb1.out
  go_wp2_with fail
  refine (eqCheck_same _ _ _ _ _ _ ds1 fs1 ac1 _ O2.out.1.1.nums O2.out.1.2.1.nums O2.out.2.1.nums T1.out.nums.1 T1.out.nums.2.1 T1.out.nums.2.2).mono ?_
  rintro e1 w18 ⟨rfl, hb⟩
  have H : Hid (Below w.heap.size w w18) := H.out.trans (hb.mono H.out.size)
  have T1 := hide (T1.out.keep hb)
  have Xb1 := hide (blk_own hb Xb1.out)
  have O2 := hide (O2.out.keep hb)
  have Xb2 := hide (blk_own hb Xb2.out)
  have mw18 := hb.size
  clear hb ca0 ca1 ca2 cb0 cb1 cb2
  obtain ⟨g1, g2, g3, ⟨q1, q2, q3⟩, ⟨n12, n13, n23⟩, ⟨z1, z2, z3⟩, hge, hoth⟩ := O2.out.three
  have hge := hge (by omega)
  obtain ⟨y1, y2, y3⟩ := hoth _ _ Xb2.out
  clear hoth
  have hcl := CL.out
  obtain ⟨ca0, ca1, ca2⟩ := cellsA3 Xb2.out
  have hsm := H.out.size
  go_wp2_with fail
  refine (markCheck_any g1 g2 g3 1 _ _ _ ds1 fs1 ac1 _ q1 q2 q3 n12 n13 n23 z1 z2 z3 (by omega) (by omega)).mono ?_
  rintro e1 w19 hm
  have H : Hid (Below w.heap.size w w19) := hm.grown H.out hsm (by omega) (by omega) (by omega)
  have T1 := hide (hm.trip T1.out (by omega) (by omega) (by omega))
  obtain ⟨rfl, h1, h2, h3, wa, wb, wc, k1, k2, k3, k4⟩ := hm
  have mk1 := k1.size
  have mk2 := k2.size
  have mk3 := k3.size
  have mk4 := k4.size
  have Xb1 := hide (blk_by k4 (blk_by k3 (blk_by k2 (blk_own k1 Xb1.out) (by omega)) (by omega)) (by omega))
  have Xb2 := hide (blk_by k4 (blk_by k3 (blk_by k2 (blk_own k1 Xb2.out) (by omega)) (by omega)) (by omega))
  have M1 := hide h1
  have M2 := hide h2
  have M3 := hide h3
  clear q1 q2 q3 k1 k2 k3 k4 h1 h2 h3 ca0 ca1 ca2 hsm O2
  obtain ⟨D, hD⟩ : ∃ D, ds1.length = D := ⟨_, rfl⟩
  obtain ⟨FF, hF⟩ : ∃ D, fs1.length = D := ⟨_, rfl⟩
  obtain ⟨A, hA⟩ : ∃ D, ac1.length = D := ⟨_, rfl⟩
  rw [hD] at M1 M2 M3 hcl
  rw [hF] at M2 M3 hcl
  rw [hA] at M3 hcl
  rw [hD, hF, hA]
  obtain ⟨S, hS⟩ : ∃ S, 1 + D + FF + A = S := ⟨_, rfl⟩
  rw [hS]
  have hS1 : 1 ≤ S := by omega
  have HS := hide hS
  have HD := hide (And.intro hD (And.intro hF hA))
  clear hS hD hF hA
  obtain ⟨ca0, ca1, ca2⟩ := cellsA3 Xb2.out
  go_wp2_with fail
  refine (heldCheck_any g1 g2 g3 1 D FF A _ _ _ _ M1.out M2.out M3.out (by omega) (by omega)).mono ?_
  rintro e1 w20 ⟨rfl, hb⟩
  rw [HS.out]
  have H : Hid (Below w.heap.size w w20) := H.out.trans (hb.mono H.out.size)
  have T1 := hide (T1.out.keep hb)
  have Xb1 := hide (blk_own hb Xb1.out)
  have Xb2 := hide (blk_own hb Xb2.out)
  have M1 := hide (M1.out.keep hb)
  have M2 := hide (M2.out.keep hb)
  have M3 := hide (M3.out.keep hb)
  have mw20 := hb.size
  clear hb ca0 ca1 ca2
  go_wp2_with fail
  refine (toCellS_any v c _ (E0.out.keep H.out) hn).mono ?_
  rintro e1 w21 ⟨_, rfl, hv, hb, gi, capi, csi, rfl, hgi, hci, hsi, hli, hki⟩
  have H : Hid (Below w.heap.size w w21) := H.out.trans (hb.mono H.out.size)
  have T1 := hide (T1.out.keep hb)
  have Xb1 := hide (blk_own hb Xb1.out)
  have Xb2 := hide (blk_own hb Xb2.out)
  have M1 := hide (M1.out.keep hb)
  have M2 := hide (M2.out.keep hb)
  have M3 := hide (M3.out.keep hb)
  have mw21 := hb.size
  have Ri := hide hv
  have Xi := hide hci
  have hlti : gi < w21.heap.size := lt_block hci
  clear hv hb hci
  go_wp2_with fail
  refine (toNoteS_any u l _ (E1.out.keep H.out) hn').mono ?_
  rintro e1 w22 ⟨_, rfl, hv, hb, gj, capj, csj, rfl, hgj, hcj, hsj, hlj, hkj⟩
  have H : Hid (Below w.heap.size w w22) := H.out.trans (hb.mono H.out.size)
  have T1 := hide (T1.out.keep hb)
  have Xb1 := hide (blk_own hb Xb1.out)
  have Xb2 := hide (blk_own hb Xb2.out)
  have M1 := hide (M1.out.keep hb)
  have M2 := hide (M2.out.keep hb)
  have M3 := hide (M3.out.keep hb)
  have Ri := hide (Ri.out.keep hb)
  have Xi := hide (blk_own hb Xi.out)
  have mw22 := hb.size
  have Rj := hide hv
  have Xj := hide hcj
  have hltj : gj < w22.heap.size := lt_block hcj
  clear hv hb hcj
  have hs03 := H.out.size
  go_wp2_with fail
  refine (iCheckOf_any _ _ c l _ Ri.out Rj.out).mono ?_
  rintro e1 w23 ⟨d3, f3, a3, ds3, fs3, ac3, rfl, hck, hrows, hb⟩
  have H : Hid (Below w.heap.size w w23) := H.out.trans (hb.mono H.out.size)
  have T1 := hide (T1.out.keep hb)
  have Xb1 := hide (blk_own hb Xb1.out)
  have Xb2 := hide (blk_own hb Xb2.out)
  have M1 := hide (M1.out.keep hb)
  have M2 := hide (M2.out.keep hb)
  have M3 := hide (M3.out.keep hb)
  have Ri := hide (Ri.out.keep hb)
  have Xi := hide (blk_own hb Xi.out)
  have Rj := hide (Rj.out.keep hb)
  have Xj := hide (blk_own hb Xj.out)
  have mw23 := hb.size
  obtain ⟨d3p, d3n, d3c, rfl⟩ := own_slice (show OwnN _ w23 d3 _ from hrows.1.1)
  obtain ⟨f3p, f3n, f3c, rfl⟩ := own_slice (show OwnN _ w23 f3 _ from hrows.1.2.1)
  obtain ⟨a3p, a3n, a3c, rfl⟩ := own_slice (show OwnN _ w23 a3 _ from hrows.2.1)
  have O3 := hide hrows
  obtain ⟨rfl, rfl, rfl⟩ := ckOf_same hck CK.out
  clear hrows hck hb
  have hb : Below w23.heap.size w23 (w23.alloc (.cells #[.slice d3p d3n d3c, .slice f3p f3n f3c, .slice a3p a3n a3c] 28)) := (Below.refl _ _).alloc (Nat.le_refl _) _
  have Xb3 := hide (blk_alloc w23 (.cells #[.slice d3p d3n d3c, .slice f3p f3n f3c, .slice a3p a3n a3c] 28))
  have H : Hid (Below w.heap.size w (w23.alloc (.cells #[.slice d3p d3n d3c, .slice f3p f3n f3c, .slice a3p a3n a3c] 28))) := H.out.trans (hb.mono H.out.size)
  have T1 := hide (T1.out.keep hb)
  have Xb1 := hide (blk_own hb Xb1.out)
  have Xb2 := hide (blk_own hb Xb2.out)
  have M1 := hide (M1.out.keep hb)
  have M2 := hide (M2.out.keep hb)
  have M3 := hide (M3.out.keep hb)
  have Ri := hide (Ri.out.keep hb)
  have Xi := hide (blk_own hb Xi.out)
  have Rj := hide (Rj.out.keep hb)
  have Xj := hide (blk_own hb Xj.out)
  have O3 := hide (O3.out.keep hb)
  have hlt3 : w23.heap.size < (w23.alloc (.cells #[.slice d3p d3n d3c, .slice f3p f3n f3c, .slice a3p a3n a3c] 28)).heap.size := lt_block Xb3.out
  clear hb
  clear Ri
  clear Xi
  clear Rj
  clear Xj
  obtain ⟨ca0, ca1, ca2⟩ := cellsA3 Xb3.out
  obtain ⟨cb0, cb1, cb2⟩ := cellsA3 Xb1.out
  go_wp2_with fail
  refine (eqCheck_same _ _ _ _ _ _ ds1 fs1 ac1 _ O3.out.1.1.nums O3.out.1.2.1.nums O3.out.2.1.nums T1.out.nums.1 T1.out.nums.2.1 T1.out.nums.2.2).mono ?_
  rintro e1 w25 ⟨rfl, hb⟩
  have H : Hid (Below w.heap.size w w25) := H.out.trans (hb.mono H.out.size)
  have T1 := hide (T1.out.keep hb)
  have Xb1 := hide (blk_own hb Xb1.out)
  have Xb2 := hide (blk_own hb Xb2.out)
  have M1 := hide (M1.out.keep hb)
  have M2 := hide (M2.out.keep hb)
  have M3 := hide (M3.out.keep hb)
  have O3 := hide (O3.out.keep hb)
  have Xb3 := hide (blk_own hb Xb3.out)
  have mw25 := hb.size
  clear hb ca0 ca1 ca2 cb0 cb1 cb2
  obtain ⟨ca0, ca1, ca2⟩ := cellsA3 Xb2.out
  go_wp2_with fail
  refine (heldCheck_any g1 g2 g3 1 D FF A _ _ _ _ M1.out M2.out M3.out (by omega) (by omega)).mono ?_
  rintro e1 w26 ⟨rfl, hb⟩
  rw [HS.out]
  have H : Hid (Below w.heap.size w w26) := H.out.trans (hb.mono H.out.size)
  have T1 := hide (T1.out.keep hb)
  have Xb1 := hide (blk_own hb Xb1.out)
  have Xb2 := hide (blk_own hb Xb2.out)
  have M1 := hide (M1.out.keep hb)
  have M2 := hide (M2.out.keep hb)
  have M3 := hide (M3.out.keep hb)
  have O3 := hide (O3.out.keep hb)
  have Xb3 := hide (blk_own hb Xb3.out)
  have mw26 := hb.size
  clear hb ca0 ca1 ca2
  go_wp2_with fail
  go_ret
  exact ⟨rfl, H.out⟩
end Go.Proofs.Ytppffmnokmhcoaa
