/-
  The walk of FnExactSetState.
-/
import Derived.Test.YteikeljklfblmaaSetSt2
set_option linter.all false
namespace Go.Proofs.Yteikeljklfblmaa
open Go.RowKit
set_option maxHeartbeats 4000000 in
set_option maxRecDepth 100000 in
theorem exactSetState_walk (v : Value) (l : List Ent) (nm : ByteArray) (st : Int) (w : World) (h : Ents w v l) :
    Calls Try.prog 13 #[v, .string nm, .int .i64 st] w fun e w' => e = .returned (.bool true) ∧ Below w.heap.size w w' := by
  have E0 := hide h
  have HZ := hide (setR_sizes h.sizes nm st)
  have HL := hide (setR_len l nm st)
  have LZ := hide h.sizes
  clear h
  generalize hok : setOk l nm st = ok at *
  generalize hR : setR l nm st = R at *
  by_cases c0 : (1048576 : Int) < (nm.size : Int)
  · go_enter Try.func13, Try.ntmps13
    go_wp2_with fail
    go_ret
    exact ⟨rfl, Below.refl _ _⟩
  go_enter Try.func13, Try.ntmps13
  go_wp2_with fail
  refine (szEntryS_any v l 1048576 w E0.out (by omega) (by omega)).mono ?_
  rintro e1 w1 ⟨r, rfl, hr0, hr1, hr2, hb1⟩
  have H := hide hb1
  have mw1 := hb1.size
  clear hb1
  by_cases hr : r < 0
  · go_wp2_with fail
    go_ret
    exact ⟨rfl, H.out⟩
  have hn : l.length ≤ 1048576 := by omega
  go_wp2_with fail
  refine (toEntryS_any v l _ (E0.out.keep H.out) hn).mono ?_
  rintro e1 w2 ⟨v2, rfl, hv, hb, gv2, capv2, csv2, rfl, hgv2, hcv2⟩
  have H : Hid (Below w.heap.size w w2) := H.out.trans (hb.mono H.out.size)
  have mw2 := hb.size
  have Rv2 := hide (row_copy hv hcv2)
  have hltv2 : gv2 < w2.heap.size := lt_block hcv2
  clear hv hb hcv2
  have hszv3 := H.out.size
  go_wp2_with fail
  refine (sSetState_any nm st _ l _ (Rv2.out.ents LZ.out)).mono ?_
  rintro e1 w3 ⟨v3, rfl, ho, hb⟩
  rw [hok]
  rw [hR] at ho
  have H : Hid (Below w.heap.size w w3) := H.out.trans (hb.mono H.out.size)
  have Rv2 := hide (Rv2.out.keep hb)
  have mw3 := hb.size
  obtain ⟨gv3, hgv3, hlv3, hrv3⟩ := OwnE.row ho
  have Rv3 := hide hrv3
  clear ho hb hrv3
  go_wp2_with fail
  refine (toEntryS_any v l _ (E0.out.keep H.out) hn).mono ?_
  rintro e1 w4 ⟨v4, rfl, hv, hb, gv4, capv4, csv4, rfl, hgv4, hcv4⟩
  have H : Hid (Below w.heap.size w w4) := H.out.trans (hb.mono H.out.size)
  have Rv3 := hide (Rv3.out.keep hb)
  have mw4 := hb.size
  have Rv4 := hide (row_copy hv hcv4)
  have hltv4 : gv4 < w4.heap.size := lt_block hcv4
  clear hv hb hcv4
  have hszv5 := H.out.size
  go_wp2_with fail
  refine (iSetState_any nm st _ l _ (Rv4.out.ents LZ.out)).mono ?_
  rintro e1 w5 ⟨v5, rfl, ho, hb⟩
  rw [hok]
  rw [hR] at ho
  have H : Hid (Below w.heap.size w w5) := H.out.trans (hb.mono H.out.size)
  have Rv3 := hide (Rv3.out.keep hb)
  have Rv4 := hide (Rv4.out.keep hb)
  have mw5 := hb.size
  obtain ⟨gv5, hgv5, hlv5, hrv5⟩ := OwnE.row ho
  have Rv5 := hide hrv5
  clear ho hb hrv5
  go_wp2_with fail
  refine (eqEntryS_same _ _ R _ (Rv5.out.ents HZ.out) (Rv3.out.ents HZ.out)).mono ?_
  rintro e1 w6 ⟨rfl, hb⟩
  have H : Hid (Below w.heap.size w w6) := H.out.trans (hb.mono H.out.size)
  have Rv3 := hide (Rv3.out.keep hb)
  have Rv4 := hide (Rv4.out.keep hb)
  have Rv5 := hide (Rv5.out.keep hb)
  have mw6 := hb.size
  clear hb
  go_wp2_with fail
  refine (toEntryS_any v l _ (E0.out.keep H.out) hn).mono ?_
  rintro e1 w7 ⟨v7, rfl, hv, hb, gv7, capv7, csv7, rfl, hgv7, hcv7⟩
  have H : Hid (Below w.heap.size w w7) := H.out.trans (hb.mono H.out.size)
  have Rv3 := hide (Rv3.out.keep hb)
  have Rv4 := hide (Rv4.out.keep hb)
  have Rv5 := hide (Rv5.out.keep hb)
  have mw7 := hb.size
  have Rv7 := hide (row_copy hv hcv7)
  have hltv7 : gv7 < w7.heap.size := lt_block hcv7
  clear hv hb hcv7
  go_wp2_with fail
  refine (eqEntryS_same _ _ l _ (Rv4.out.ents LZ.out) (Rv7.out.ents LZ.out)).mono ?_
  rintro e1 w8 ⟨rfl, hb⟩
  have H : Hid (Below w.heap.size w w8) := H.out.trans (hb.mono H.out.size)
  have Rv3 := hide (Rv3.out.keep hb)
  have Rv4 := hide (Rv4.out.keep hb)
  have Rv5 := hide (Rv5.out.keep hb)
  have Rv7 := hide (Rv7.out.keep hb)
  have mw8 := hb.size
  clear hb
  have hsm := H.out.size
  go_wp2_with fail
  refine (markEntryS_any gv4 1 _ l _ Rv4.out (by omega) (by have := HL.out; omega)).mono ?_
  rintro e1 w9 ⟨rfl, hg, hrow⟩
  have H : Hid (Below w.heap.size w w9) := H.out.grown hg hsm (fun q hq => by cases hq; omega)
  have Rv3 := hide (Rv3.out.kept hg (fun hne => by have := hlv3 hne; omega))
  have Rv5 := hide (Rv5.out.kept hg (fun hne => by have := hlv5 hne; omega))
  have Rv4 := hide hrow
  have mw9 := hg.size
  clear hg hrow hsm
  go_wp2_with fail
  refine (eqEntryS_same _ _ R _ (Rv5.out.ents HZ.out) (Rv3.out.ents HZ.out)).mono ?_
  rintro e1 w10 ⟨rfl, hb⟩
  have H : Hid (Below w.heap.size w w10) := H.out.trans (hb.mono H.out.size)
  have Rv3 := hide (Rv3.out.keep hb)
  have Rv5 := hide (Rv5.out.keep hb)
  have mw10 := hb.size
  clear hb
  have hsm := H.out.size
  go_wp2_with fail
  refine (markEntryS_any gv5 1 _ R _ Rv5.out (by omega) (by have := HL.out; omega)).mono ?_
  rintro e1 w11 ⟨rfl, hg, hrow⟩
  have H : Hid (Below w.heap.size w w11) := H.out.grown hg hsm (fun q hq => by cases hq; omega)
  have Rv3 := hide (Rv3.out.kept hg (fun hne => by have := hlv3 hne; omega))
  have Rv5 := hide hrow
  have mw11 := hg.size
  clear hg hrow hsm
  go_wp2_with fail
  refine (heldEntryS_any gv5 R.length 1 _ _ Rv5.out (by omega) (by have := HL.out; omega)).mono ?_
  rintro e1 w12 ⟨rfl, hb⟩
  have H : Hid (Below w.heap.size w w12) := H.out.trans (hb.mono H.out.size)
  have Rv3 := hide (Rv3.out.keep hb)
  have Rv5 := hide (Rv5.out.keep hb)
  have mw12 := hb.size
  clear hb
  go_wp2_with fail
  refine (toEntryS_any v l _ (E0.out.keep H.out) hn).mono ?_
  rintro e1 w13 ⟨v8, rfl, hv, hb, gv8, capv8, csv8, rfl, hgv8, hcv8⟩
  have H : Hid (Below w.heap.size w w13) := H.out.trans (hb.mono H.out.size)
  have Rv3 := hide (Rv3.out.keep hb)
  have Rv5 := hide (Rv5.out.keep hb)
  have mw13 := hb.size
  have Rv8 := hide (row_copy hv hcv8)
  have hltv8 : gv8 < w13.heap.size := lt_block hcv8
  clear hv hb hcv8
  have hszv9 := H.out.size
  go_wp2_with fail
  refine (iSetState_any nm st _ l _ (Rv8.out.ents LZ.out)).mono ?_
  rintro e1 w14 ⟨v9, rfl, ho, hb⟩
  rw [hok]
  rw [hR] at ho
  have H : Hid (Below w.heap.size w w14) := H.out.trans (hb.mono H.out.size)
  have Rv3 := hide (Rv3.out.keep hb)
  have Rv5 := hide (Rv5.out.keep hb)
  have Rv8 := hide (Rv8.out.keep hb)
  have mw14 := hb.size
  obtain ⟨gv9, hgv9, hlv9, hrv9⟩ := OwnE.row ho
  have Rv9 := hide hrv9
  clear ho hb hrv9
  go_wp2_with fail
  refine (eqEntryS_same _ _ R _ (Rv9.out.ents HZ.out) (Rv3.out.ents HZ.out)).mono ?_
  rintro e1 w15 ⟨rfl, hb⟩
  have H : Hid (Below w.heap.size w w15) := H.out.trans (hb.mono H.out.size)
  have Rv3 := hide (Rv3.out.keep hb)
  have Rv5 := hide (Rv5.out.keep hb)
  have Rv8 := hide (Rv8.out.keep hb)
  have Rv9 := hide (Rv9.out.keep hb)
  have mw15 := hb.size
  clear hb
  go_wp2_with fail
  refine (heldEntryS_any gv5 R.length 1 _ _ Rv5.out (by omega) (by have := HL.out; omega)).mono ?_
  rintro e1 w16 ⟨rfl, hb⟩
  have H : Hid (Below w.heap.size w w16) := H.out.trans (hb.mono H.out.size)
  have Rv3 := hide (Rv3.out.keep hb)
  have Rv5 := hide (Rv5.out.keep hb)
  have Rv8 := hide (Rv8.out.keep hb)
  have Rv9 := hide (Rv9.out.keep hb)
  have mw16 := hb.size
  clear hb
  go_wp2_with fail
  go_ret
  exact ⟨rfl, H.out⟩
end Go.Proofs.Yteikeljklfblmaa
