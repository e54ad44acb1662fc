/-
  The walk of FnExactIndexOf.
-/
import Derived.Test.YtfidhndojkopaaaMarkI
set_option linter.all false
namespace Go.Proofs.Ytfidhndojkopaaa
open Go.RowKit
set_option maxHeartbeats 16000000 in
set_option maxRecDepth 100000 in
theorem exactIndexOf_walk (v : Value) (c : List Itm) (w : World) (h : Itms w v c) :
    Calls Try.prog 3 #[v] w fun e w' => e = .returned (.bool true) ∧ Below w.heap.size w w' := by
  have E0 := hide h
  clear h
  go_enter Try.func3, Try.ntmps3
  go_wp2_with fail
  refine (szItemS_any v c 1048576 w E0.out (by omega) (by omega)).mono ?_
  rintro e1 w1 ⟨r, rfl, hr0, hr1, hr2, hb⟩
  have H := hide hb
  clear hb
  by_cases hr : r < 0
  · go_wp2_with fail
    go_ret
    exact ⟨rfl, H.out⟩
  have hn : c.length ≤ 1048576 := by omega
  go_wp2_with fail
  refine (toItemS_any v c _ (E0.out.keep H.out) hn).mono ?_
  rintro e1 w2 ⟨_, rfl, hv, hb, ga, capa, csa, rfl, hga, hca⟩
  have H : Hid (Below w.heap.size w w2) := H.out.trans (hb.mono H.out.size)
  have mw2 := hb.size
  have Ra := hide (RowItem.new hv hca)
  have hlta : ga < w2.heap.size := lt_block hca
  clear hv hb hca
  clear hr0 hr1 hr2 hr
  have hsz1 := H.out.size
  go_wp2_with fail
  refine (sIndexOf_any _ c _ Ra.out.rows).mono ?_
  rintro e1 w3 ⟨v1, r1, rfl, hrel, ho, hb⟩
  have H : Hid (Below w.heap.size w w3) := H.out.trans (hb.mono H.out.size)
  have Ra := hide (Ra.out.keep hb)
  have mw3 := hb.size
  obtain ⟨g1, hg1, hl1, hr1⟩ := OwnI.row ho
  have V1 := hide hr1
  clear hr1 ho
  have CK := hide hrel
  have hlen : r1.length ≤ 200 := IdxOf.len hrel
  clear hrel hb
  clear Ra
  go_wp2_with fail
  refine (toItemS_any v c _ (E0.out.keep H.out) hn).mono ?_
  rintro e1 w4 ⟨_, rfl, hv, hb, gx, capx, csx, rfl, hgx, hcx⟩
  have H : Hid (Below w.heap.size w w4) := H.out.trans (hb.mono H.out.size)
  have V1 := hide (V1.out.keep hb)
  have mw4 := hb.size
  have Rx := hide (RowItem.new hv hcx)
  have hltx : gx < w4.heap.size := lt_block hcx
  clear hv hb hcx
  have hsz2 := H.out.size
  go_wp2_with fail
  refine (iIndexOf_any _ c _ Rx.out.rows).mono ?_
  rintro e1 w5 ⟨v2, r2, rfl, hrel, ho, hb⟩
  have H : Hid (Below w.heap.size w w5) := H.out.trans (hb.mono H.out.size)
  have V1 := hide (V1.out.keep hb)
  have Rx := hide (Rx.out.keep hb)
  have mw5 := hb.size
  obtain ⟨g2, hg2, hl2, hr2⟩ := OwnI.row ho
  have V2 := hide hr2
  clear hr2 ho
  obtain rfl := IdxOf.uniq CK.out hrel
  clear hrel hb
  go_wp2_with fail
  refine (eqItemS_same _ _ r1 _ V2.out.rows V1.out.rows).mono ?_
  rintro e1 w6 ⟨rfl, hb⟩
  have H : Hid (Below w.heap.size w w6) := H.out.trans (hb.mono H.out.size)
  have V1 := hide (V1.out.keep hb)
  have Rx := hide (Rx.out.keep hb)
  have V2 := hide (V2.out.keep hb)
  have mw6 := hb.size
  clear hb
  go_wp2_with fail
  refine (toItemS_any v c _ (E0.out.keep H.out) hn).mono ?_
  rintro e1 w7 ⟨_, rfl, hv, hb, ge, cape, cse, rfl, hge, hce⟩
  have H : Hid (Below w.heap.size w w7) := H.out.trans (hb.mono H.out.size)
  have V1 := hide (V1.out.keep hb)
  have Rx := hide (Rx.out.keep hb)
  have V2 := hide (V2.out.keep hb)
  have mw7 := hb.size
  have Re := hide (RowItem.new hv hce)
  have hlte : ge < w7.heap.size := lt_block hce
  clear hv hb hce
  go_wp2_with fail
  refine (eqItemS_same _ _ c _ Rx.out.rows Re.out.rows).mono ?_
  rintro e1 w8 ⟨rfl, hb⟩
  have H : Hid (Below w.heap.size w w8) := H.out.trans (hb.mono H.out.size)
  have V1 := hide (V1.out.keep hb)
  have Rx := hide (Rx.out.keep hb)
  have V2 := hide (V2.out.keep hb)
  have Re := hide (Re.out.keep hb)
  have mw8 := hb.size
  clear hb
  clear Re
  have hsm := H.out.size
  go_wp2_with fail
  refine (markItemS_row gx 1 _ c _ Rx.out (by omega) (by omega)).mono ?_
  rintro e1 w9 ⟨rfl, hg, -⟩
  have H : Hid (Below w.heap.size w w9) := H.out.grown hg hsm (fun q hq => by cases hq; omega)
  clear Rx
  have V1 := hide (V1.out.kept hg (fun hne => by have := hl1 hne; omega))
  have V2 := hide (V2.out.kept hg (fun hne => by have := hl2 hne; omega))
  have mw9 := hg.size
  clear hg hsm
  go_wp2_with fail
  refine (eqItemS_same _ _ r1 _ V2.out.rows V1.out.rows).mono ?_
  rintro e1 w10 ⟨rfl, hb⟩
  have H : Hid (Below w.heap.size w w10) := H.out.trans (hb.mono H.out.size)
  have V1 := hide (V1.out.keep hb)
  have V2 := hide (V2.out.keep hb)
  have mw10 := hb.size
  clear hb
  have hsm := H.out.size
  go_wp2_with fail
  refine (markItemS_row g2 1 _ r1 _ V2.out (by omega) (by omega)).mono ?_
  rintro e1 w11 ⟨rfl, hg, hrow⟩
  have H : Hid (Below w.heap.size w w11) := H.out.grown hg hsm (fun q hq => by cases hq; omega)
  have V1 := hide (V1.out.kept hg (fun hne => by have := hl1 hne; omega))
  have V2 := hide hrow
  have mw11 := hg.size
  clear hg hsm hrow
  obtain ⟨D, hD⟩ : ∃ D, r1.length = D := ⟨_, rfl⟩
  rw [hD] at V2 hlen
  rw [hD]
  obtain ⟨S, hS⟩ : ∃ S, 1 + D * 2 = S := ⟨_, rfl⟩
  rw [hS]
  have hS1 : 1 ≤ S := by omega
  have HS := hide hS
  have HD := hide hD
  clear hS hD
  go_wp2_with fail
  refine (heldItemS_row g2 D 1 _ _ V2.out (by omega) (by omega)).mono ?_
  rintro e1 w12 ⟨rfl, hb⟩
  rw [HS.out]
  have H : Hid (Below w.heap.size w w12) := H.out.trans (hb.mono H.out.size)
  have V1 := hide (V1.out.keep hb)
  have V2 := hide (V2.out.keep hb)
  have mw12 := hb.size
  clear hb
  go_wp2_with fail
  refine (toItemS_any v c _ (E0.out.keep H.out) hn).mono ?_
  rintro e1 w13 ⟨_, rfl, hv, hb, gi, capi, csi, rfl, hgi, hci⟩
  have H : Hid (Below w.heap.size w w13) := H.out.trans (hb.mono H.out.size)
  have V1 := hide (V1.out.keep hb)
  have V2 := hide (V2.out.keep hb)
  have mw13 := hb.size
  have Ri := hide (RowItem.new hv hci)
  have hlti : gi < w13.heap.size := lt_block hci
  clear hv hb hci
  have hsz3 := H.out.size
  go_wp2_with fail
  refine (iIndexOf_any _ c _ Ri.out.rows).mono ?_
  rintro e1 w14 ⟨v3, r3, rfl, hrel, ho, hb⟩
  have H : Hid (Below w.heap.size w w14) := H.out.trans (hb.mono H.out.size)
  have V1 := hide (V1.out.keep hb)
  have V2 := hide (V2.out.keep hb)
  have Ri := hide (Ri.out.keep hb)
  have mw14 := hb.size
  obtain ⟨g3, hg3, hl3, hr3⟩ := OwnI.row ho
  have V3 := hide hr3
  clear hr3 ho
  obtain rfl := IdxOf.uniq CK.out hrel
  clear hrel hb
  clear Ri
  go_wp2_with fail
  refine (eqItemS_same _ _ r1 _ V3.out.rows V1.out.rows).mono ?_
  rintro e1 w15 ⟨rfl, hb⟩
  have H : Hid (Below w.heap.size w w15) := H.out.trans (hb.mono H.out.size)
  have V1 := hide (V1.out.keep hb)
  have V2 := hide (V2.out.keep hb)
  have V3 := hide (V3.out.keep hb)
  have mw15 := hb.size
  clear hb
  go_wp2_with fail
  refine (heldItemS_row g2 D 1 _ _ V2.out (by omega) (by omega)).mono ?_
  rintro e1 w16 ⟨rfl, hb⟩
  rw [HS.out]
  have H : Hid (Below w.heap.size w w16) := H.out.trans (hb.mono H.out.size)
  have V1 := hide (V1.out.keep hb)
  have V2 := hide (V2.out.keep hb)
  have V3 := hide (V3.out.keep hb)
  have mw16 := hb.size
  clear hb
  go_wp2_with fail
  go_ret
  exact ⟨rfl, H.out⟩
end Go.Proofs.Ytfidhndojkopaaa
