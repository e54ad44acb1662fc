/-
  The walk of FnExactFirstClash.
-/
import Derived.Test.YtfidhndojkopaaaClash
import Derived.Test.YtfidhndojkopaaaMarkI
set_option linter.all false
namespace Go.Proofs.Ytfidhndojkopaaa
open Go.RowKit
set_option maxHeartbeats 16000000 in
set_option maxRecDepth 100000 in
theorem exactFirstClash_walk (v : Value) (c : List Itm) (u : Value) (l : List RMove) (w : World) (h : Itms w v c) (h' : Moves w u l) :
    Calls Try.prog 9 #[v, u] w fun e w' => e = .returned (.bool true) ∧ Below w.heap.size w w' := by
  have E0 := hide h
  have E1 := hide h'
  clear h h'
  go_enter Try.func9, Try.ntmps9
  go_wp2_with fail
  refine (szItemS_any v c 1048576 w E0.out (by omega) (by omega)).mono ?_
  rintro e1 w1 ⟨r, rfl, hr0, hr1, hr2, hb⟩
  have H := hide hb
  clear hb
  by_cases hr : r < 0
  · go_wp2_with fail
    go_ret
    exact ⟨rfl, H.out⟩
  have hn : c.length ≤ 1048576 := by omega
  go_wp2_with fail
  refine (szMoveS_any u l r w1 (E1.out.keep H.out) (by omega) (by omega)).mono ?_
  rintro e1 w2 ⟨r2, rfl, hq0, hq1, hq2, hb⟩
  have H : Hid (Below w.heap.size w w2) := H.out.trans (hb.mono H.out.size)
  clear hb
  by_cases hr' : r2 < 0
  · go_wp2_with fail
    go_ret
    exact ⟨rfl, H.out⟩
  have hn' : l.length ≤ 1048576 := by omega
  go_wp2_with fail
  refine (toItemS_any v c _ (E0.out.keep H.out) hn).mono ?_
  rintro e1 w3 ⟨_, rfl, hv, hb, ga, capa, csa, rfl, hga, hca⟩
  have H : Hid (Below w.heap.size w w3) := H.out.trans (hb.mono H.out.size)
  have mw3 := hb.size
  have Ra := hide (RowItem.new hv hca)
  have hlta : ga < w3.heap.size := lt_block hca
  clear hv hb hca
  clear hr0 hr1 hr2 hr hq0 hq1 hq2 hr'
  go_wp2_with fail
  refine (toMoveS_any u l _ (E1.out.keep H.out) hn').mono ?_
  rintro e1 w4 ⟨_, rfl, hv, hb, gb, capb, csb, rfl, hgb, hcb, hsb, hlb, hkb⟩
  have H : Hid (Below w.heap.size w w4) := H.out.trans (hb.mono H.out.size)
  have Ra := hide (Ra.out.keep hb)
  have mw4 := hb.size
  have Rb := hide hv
  have Xb := hide hcb
  have hltb : gb < w4.heap.size := lt_block hcb
  clear hv hb hcb
  have hsz1 := H.out.size
  go_wp2_with fail
  refine (sFirstClash_any _ _ c l _ Ra.out.rows nilOk_some Rb.out).mono ?_
  rintro e1 w5 ⟨r1, rfl, hrel, hb⟩
  have H : Hid (Below w.heap.size w w5) := H.out.trans (hb.mono H.out.size)
  have Ra := hide (Ra.out.keep hb)
  have Rb := hide (Rb.out.keep hb)
  have Xb := hide (blk_own hb Xb.out)
  have mw5 := hb.size
  have CK := hide hrel
  clear hrel hb
  clear Ra
  clear Rb
  clear Xb
  go_wp2_with fail
  refine (toItemS_any v c _ (E0.out.keep H.out) hn).mono ?_
  rintro e1 w6 ⟨_, rfl, hv, hb, gx, capx, csx, rfl, hgx, hcx⟩
  have H : Hid (Below w.heap.size w w6) := H.out.trans (hb.mono H.out.size)
  have mw6 := hb.size
  have Rx := hide (RowItem.new hv hcx)
  have hltx : gx < w6.heap.size := lt_block hcx
  clear hv hb hcx
  go_wp2_with fail
  refine (toMoveS_any u l _ (E1.out.keep H.out) hn').mono ?_
  rintro e1 w7 ⟨_, rfl, hv, hb, gy, capy, csy, rfl, hgy, hcy, hsy, hly, hky⟩
  have H : Hid (Below w.heap.size w w7) := H.out.trans (hb.mono H.out.size)
  have Rx := hide (Rx.out.keep hb)
  have mw7 := hb.size
  have Ry := hide hv
  have Xy := hide hcy
  have hlty : gy < w7.heap.size := lt_block hcy
  clear hv hb hcy
  have hsz2 := H.out.size
  go_wp2_with fail
  refine (iFirstClash_any _ _ c l _ Rx.out.rows Ry.out).mono ?_
  rintro e1 w8 ⟨r2, rfl, hrel, hb⟩
  have H : Hid (Below w.heap.size w w8) := H.out.trans (hb.mono H.out.size)
  have Rx := hide (Rx.out.keep hb)
  have Ry := hide (Ry.out.keep hb)
  have Xy := hide (blk_own hb Xy.out)
  have mw8 := hb.size
  obtain rfl := ClsOf.uniq CK.out hrel
  clear hrel hb
  go_wp2_with fail
  refine (toItemS_any v c _ (E0.out.keep H.out) hn).mono ?_
  rintro e1 w9 ⟨_, rfl, hv, hb, ge, cape, cse, rfl, hge, hce⟩
  have H : Hid (Below w.heap.size w w9) := H.out.trans (hb.mono H.out.size)
  have Rx := hide (Rx.out.keep hb)
  have Ry := hide (Ry.out.keep hb)
  have Xy := hide (blk_own hb Xy.out)
  have mw9 := hb.size
  have Re := hide (RowItem.new hv hce)
  have hlte : ge < w9.heap.size := lt_block hce
  clear hv hb hce
  go_wp2_with fail
  refine (eqItemS_same _ _ c _ Rx.out.rows Re.out.rows).mono ?_
  rintro e1 w10 ⟨rfl, hb⟩
  have H : Hid (Below w.heap.size w w10) := H.out.trans (hb.mono H.out.size)
  have Rx := hide (Rx.out.keep hb)
  have Ry := hide (Ry.out.keep hb)
  have Xy := hide (blk_own hb Xy.out)
  have Re := hide (Re.out.keep hb)
  have mw10 := hb.size
  clear hb
  clear Re
  go_wp2_with fail
  refine (toMoveS_any u l _ (E1.out.keep H.out) hn').mono ?_
  rintro e1 w11 ⟨_, rfl, hv, hb, gf, capf, csf, rfl, hgf, hcf, hsf, hlf, hkf⟩
  have H : Hid (Below w.heap.size w w11) := H.out.trans (hb.mono H.out.size)
  have Rx := hide (Rx.out.keep hb)
  have Ry := hide (Ry.out.keep hb)
  have Xy := hide (blk_own hb Xy.out)
  have mw11 := hb.size
  have Rf := hide hv
  have Xf := hide hcf
  have hltf : gf < w11.heap.size := lt_block hcf
  clear hv hb hcf
  go_wp2_with fail
  refine (eqMoveS_same _ _ l _ Ry.out Rf.out).mono ?_
  rintro e1 w12 ⟨rfl, hb⟩
  have H : Hid (Below w.heap.size w w12) := H.out.trans (hb.mono H.out.size)
  have Rx := hide (Rx.out.keep hb)
  have Ry := hide (Ry.out.keep hb)
  have Xy := hide (blk_own hb Xy.out)
  have Rf := hide (Rf.out.keep hb)
  have Xf := hide (blk_own hb Xf.out)
  have mw12 := hb.size
  clear hb
  clear Rf
  clear Xf
  go_wp2_with fail
  go_ret
  exact ⟨rfl, H.out⟩
end Go.Proofs.Ytfidhndojkopaaa
