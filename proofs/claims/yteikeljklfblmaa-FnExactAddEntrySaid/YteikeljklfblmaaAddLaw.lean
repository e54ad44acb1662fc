/-
  The walk of FnExactAddEntry.
-/
import Derived.Test.YteikeljklfblmaaAdd2
import Derived.Test.YteikeljklfblmaaEntArg
set_option linter.all false
namespace Go.Proofs.Yteikeljklfblmaa
open Go.RowKit
def BoxAt (g : Nat) (w : World) (e : Ent) : Prop := w.heap[g]? = some (.cells #[.string e.n, .string e.t, .int .i64 e.s] 51 (0, 0))
theorem BoxAt.keep {g : Nat} {w w' : World} {e : Ent} (h : BoxAt g w e) (hb : Below w.heap.size w w') : BoxAt g w' e := blk_own hb h
theorem BoxAt.kept {g b : Nat} {w w' : World} {e : Ent} (h : BoxAt g w e) (hg : w.grownBy w' (some b)) (hne : g ≠ b) : BoxAt g w' e := (hg.block g (lt_block h) (fun e => hne (by injection e))).trans h
set_option maxHeartbeats 4000000 in
set_option maxRecDepth 100000 in
theorem exactAddEntry_walk (v : Value) (l : List Ent) (e : Ent) (w : World) (h : Ents w v l) (he : e.n.size ≤ 9223372036854775807 ∧ e.t.size ≤ 9223372036854775807) :
    Calls Try.prog 12 #[v, .agg #[.string e.n, .string e.t, .int .i64 e.s]] w fun e w' => e = .returned (.bool true) ∧ Below w.heap.size w w' := by
  have E0 := hide h
  have HZ := hide (addR_sizes h.sizes he)
  have HL := hide (addR_len l e)
  have LZ := hide h.sizes
  clear h
  have HA := hide ((Below.refl w.heap.size w).alloc (Nat.le_refl _) (.cells #[.string e.n, .string e.t, .int .i64 e.s] 51))
  generalize hok : addOk l e = ok at *
  generalize hR : addR l e = R at *
  go_enter Try.func12, Try.ntmps12
  go_wp2_with fail
  refine (szEntryS_any v l 1048576 _ (E0.out.keep HA.out) (by omega) (by omega)).mono ?_
  rintro e1 w1 ⟨r, rfl, hr0, hr1, hr2, hb1⟩
  have H : Hid (Below w.heap.size w w1) := HA.out.trans (hb1.mono HA.out.size)
  have BX : Hid (BoxAt w.heap.size w1 e) := blk_own hb1 (blk_alloc w _)
  have mw1 : w.heap.size + 1 ≤ w1.heap.size := by have := hb1.size; simpa using this
  obtain ⟨⟨c0, c1, c2⟩, -⟩ := cells3 BX.out
  clear hb1
  by_cases hr : r < 0
  · go_wp2_with fail
    go_ret
    exact ⟨rfl, H.out⟩
  have hn : l.length ≤ 1048576 := by omega
  go_wp2_with fail
  refine (szEntry_any e r _ (by omega) (by omega) he.1 he.2).mono ?_
  rintro e1 w1b ⟨r2, rfl, hr0', hr1', -, hb1⟩
  have H : Hid (Below w.heap.size w w1b) := H.out.trans (hb1.mono H.out.size)
  have mw1b := hb1.size
  have BX := hide (BX.out.keep hb1)
  clear hb1 c0 c1 c2
  by_cases hr2 : r2 < 0
  · go_wp2_with fail
    go_ret
    exact ⟨rfl, H.out⟩
  have hszv3 := H.out.size
  have EW := hide (E0.out.keep H.out)
  obtain ⟨⟨c0, c1, c2⟩, -⟩ := cells3 BX.out
  go_upto_region 8 with fail
  go_cut [6, 7] (fun sa sb wx => ∃ vx gx, sa = vx ∧ sb = .bool ok ∧ Below w1b.heap.size w1b wx ∧ w1b.heap.size ≤ gx ∧ (R ≠ [] → gx < wx.heap.size) ∧ RowAt gx wx vx R)
  case first =>
    go_region_with (first
      | (go_at_call 18; refine (toEntryS_any v l _ (EW.out.keep (Below.refl _ _).drew) hn).mono ?_; rintro e1 wA ⟨vA, rfl, hvA, hbA, gA, capA, csA, rfl, hgA, hcA⟩; have EA := hide hvA; have HA1 : Hid (Below w1b.heap.size w1b wA) := (Below.refl _ _).drew.trans hbA; have DA := hide (blk_own HA1.out BX.out); obtain ⟨⟨d0, d1, d2⟩, -⟩ := cells3 DA.out; clear hvA hbA hgA hcA)
      | (go_at_call 37; refine (toEntry_any e _).mono ?_; rintro e1 wB ⟨rfl, hbB⟩; have EB := hide (EA.out.keep hbB); have HB1 : Hid (Below w1b.heap.size w1b wB) := HA1.out.trans (hbB.mono HA1.out.size); clear hbB)
      | (go_at_call 30; refine (sAddEntry_any e _ l _ EB.out he ⟨_, _, _, rfl⟩).mono ?_; rintro e1 wC ⟨vC, rfl, hoC, hbC⟩; rw [hok]; rw [hR] at hoC; have OC := hide hoC; have HC1 : Hid (Below w1b.heap.size w1b wC) := HB1.out.trans (hbC.mono HB1.out.size); clear hoC hbC))
    all_goals
      go_wp2_with fail
      go_meet
      obtain ⟨gC, q1, q2, q3⟩ := OwnE.row OC.out
      exact ⟨_, gC, rfl, rfl, HC1.out, Nat.le_trans HB1.out.size q1, q2, q3⟩
  obtain ⟨v3, gv3, rfl, rfl, hb, hgv3, hlv3, hrv3⟩ := hcut
  clear c0 c1 c2
  have H : Hid (Below w.heap.size w wc) := H.out.trans (hb.mono H.out.size)
  have BX := hide (BX.out.keep hb)
  have mwc := hb.size
  have Rv3 := hide hrv3
  clear hb hrv3
  go_wp2_with fail
  refine (toEntryS_any v l _ (E0.out.keep H.out) hn).mono ?_
  rintro e1 w3 ⟨v4, rfl, hv, hb, gv4, capv4, csv4, rfl, hgv4, hcv4⟩
  have H : Hid (Below w.heap.size w w3) := H.out.trans (hb.mono H.out.size)
  have BX := hide (BX.out.keep hb)
  have Rv3 := hide (Rv3.out.keep hb)
  have mw3 := hb.size
  have Rv4 := hide (row_copy hv hcv4)
  have hltv4 : gv4 < w3.heap.size := lt_block hcv4
  clear hv hb hcv4
  obtain ⟨⟨c0, c1, c2⟩, -⟩ := cells3 BX.out
  go_wp2_with fail
  refine (toEntry_any e _).mono ?_
  rintro e1 w4 ⟨rfl, hb⟩
  have H : Hid (Below w.heap.size w w4) := H.out.trans (hb.mono H.out.size)
  have BX := hide (BX.out.keep hb)
  have Rv3 := hide (Rv3.out.keep hb)
  have Rv4 := hide (Rv4.out.keep hb)
  have mw4 := hb.size
  clear hb c0 c1 c2
  have hszv5 := H.out.size
  go_wp2_with fail
  refine (iAddEntry_any e _ l _ (Rv4.out.ents LZ.out) he).mono ?_
  rintro e1 w5 ⟨v5, rfl, ho, hb⟩
  rw [hok]
  rw [hR] at ho
  have H : Hid (Below w.heap.size w w5) := H.out.trans (hb.mono H.out.size)
  have BX := hide (BX.out.keep hb)
  have Rv3 := hide (Rv3.out.keep hb)
  have Rv4 := hide (Rv4.out.keep hb)
  have mw5 := hb.size
  obtain ⟨gv5, hgv5, hlv5, hrv5⟩ := OwnE.row ho
  have Rv5 := hide hrv5
  clear ho hb hrv5
  go_wp2_with fail
  refine (eqEntryS_same _ _ R _ (Rv5.out.ents HZ.out) (Rv3.out.ents HZ.out)).mono ?_
  rintro e1 w6 ⟨rfl, hb⟩
  have H : Hid (Below w.heap.size w w6) := H.out.trans (hb.mono H.out.size)
  have BX := hide (BX.out.keep hb)
  have Rv3 := hide (Rv3.out.keep hb)
  have Rv4 := hide (Rv4.out.keep hb)
  have Rv5 := hide (Rv5.out.keep hb)
  have mw6 := hb.size
  clear hb
  go_wp2_with fail
  refine (toEntryS_any v l _ (E0.out.keep H.out) hn).mono ?_
  rintro e1 w7 ⟨v7, rfl, hv, hb, gv7, capv7, csv7, rfl, hgv7, hcv7⟩
  have H : Hid (Below w.heap.size w w7) := H.out.trans (hb.mono H.out.size)
  have BX := hide (BX.out.keep hb)
  have Rv3 := hide (Rv3.out.keep hb)
  have Rv4 := hide (Rv4.out.keep hb)
  have Rv5 := hide (Rv5.out.keep hb)
  have mw7 := hb.size
  have Rv7 := hide (row_copy hv hcv7)
  have hltv7 : gv7 < w7.heap.size := lt_block hcv7
  clear hv hb hcv7
  go_wp2_with fail
  refine (eqEntryS_same _ _ l _ (Rv4.out.ents LZ.out) (Rv7.out.ents LZ.out)).mono ?_
  rintro e1 w8 ⟨rfl, hb⟩
  have H : Hid (Below w.heap.size w w8) := H.out.trans (hb.mono H.out.size)
  have BX := hide (BX.out.keep hb)
  have Rv3 := hide (Rv3.out.keep hb)
  have Rv4 := hide (Rv4.out.keep hb)
  have Rv5 := hide (Rv5.out.keep hb)
  have Rv7 := hide (Rv7.out.keep hb)
  have mw8 := hb.size
  clear hb
  have hsm := H.out.size
  go_wp2_with fail
  refine (markEntryS_any gv4 1 _ l _ Rv4.out (by omega) (by have := HL.out; omega)).mono ?_
  rintro e1 w9 ⟨rfl, hg, hrow⟩
  have H : Hid (Below w.heap.size w w9) := H.out.grown hg hsm (fun q hq => by cases hq; omega)
  have BX := hide (BX.out.kept hg (by omega))
  have Rv3 := hide (Rv3.out.kept hg (fun hne => by have := hlv3 hne; omega))
  have Rv5 := hide (Rv5.out.kept hg (fun hne => by have := hlv5 hne; omega))
  have Rv4 := hide hrow
  have mw9 := hg.size
  clear hg hrow hsm
  go_wp2_with fail
  refine (eqEntryS_same _ _ R _ (Rv5.out.ents HZ.out) (Rv3.out.ents HZ.out)).mono ?_
  rintro e1 w10 ⟨rfl, hb⟩
  have H : Hid (Below w.heap.size w w10) := H.out.trans (hb.mono H.out.size)
  have BX := hide (BX.out.keep hb)
  have Rv3 := hide (Rv3.out.keep hb)
  have Rv5 := hide (Rv5.out.keep hb)
  have mw10 := hb.size
  clear hb
  have hsm := H.out.size
  go_wp2_with fail
  refine (markEntryS_any gv5 1 _ R _ Rv5.out (by omega) (by have := HL.out; omega)).mono ?_
  rintro e1 w11 ⟨rfl, hg, hrow⟩
  have H : Hid (Below w.heap.size w w11) := H.out.grown hg hsm (fun q hq => by cases hq; omega)
  have BX := hide (BX.out.kept hg (by omega))
  have Rv3 := hide (Rv3.out.kept hg (fun hne => by have := hlv3 hne; omega))
  have Rv5 := hide hrow
  have mw11 := hg.size
  clear hg hrow hsm
  go_wp2_with fail
  refine (heldEntryS_any gv5 R.length 1 _ _ Rv5.out (by omega) (by have := HL.out; omega)).mono ?_
  rintro e1 w12 ⟨rfl, hb⟩
  have H : Hid (Below w.heap.size w w12) := H.out.trans (hb.mono H.out.size)
  have BX := hide (BX.out.keep hb)
  have Rv3 := hide (Rv3.out.keep hb)
  have Rv5 := hide (Rv5.out.keep hb)
  have mw12 := hb.size
  clear hb
  have hszv9 := H.out.size
  have EW := hide (E0.out.keep H.out)
  obtain ⟨⟨c0, c1, c2⟩, -⟩ := cells3 BX.out
  go_upto_region 27 with fail
  go_cut [14, 15] (fun sa sb wx => ∃ vx gx, sa = vx ∧ sb = .bool ok ∧ Below w12.heap.size w12 wx ∧ w12.heap.size ≤ gx ∧ (R ≠ [] → gx < wx.heap.size) ∧ RowAt gx wx vx R)
  case first =>
    go_region_with (first
      | (go_at_call 18; refine (toEntryS_any v l _ (EW.out.keep (Below.refl _ _).drew) hn).mono ?_; rintro e1 wA ⟨vA, rfl, hvA, hbA, gA, capA, csA, rfl, hgA, hcA⟩; have EA := hide hvA; have HA1 : Hid (Below w12.heap.size w12 wA) := (Below.refl _ _).drew.trans hbA; have DA := hide (blk_own HA1.out BX.out); obtain ⟨⟨d0, d1, d2⟩, -⟩ := cells3 DA.out; clear hvA hbA hgA hcA)
      | (go_at_call 37; refine (toEntry_any e _).mono ?_; rintro e1 wB ⟨rfl, hbB⟩; have EB := hide (EA.out.keep hbB); have HB1 : Hid (Below w12.heap.size w12 wB) := HA1.out.trans (hbB.mono HA1.out.size); clear hbB)
      | (go_at_call 29; refine (iAddEntry_any e _ l _ EB.out he).mono ?_; rintro e1 wC ⟨vC, rfl, hoC, hbC⟩; rw [hok]; rw [hR] at hoC; have OC := hide hoC; have HC1 : Hid (Below w12.heap.size w12 wC) := HB1.out.trans (hbC.mono HB1.out.size); clear hoC hbC))
    all_goals
      go_wp2_with fail
      go_meet
      obtain ⟨gC, q1, q2, q3⟩ := OwnE.row OC.out
      exact ⟨_, gC, rfl, rfl, HC1.out, Nat.le_trans HB1.out.size q1, q2, q3⟩
  obtain ⟨v9, gv9, rfl, rfl, hb, hgv9, hlv9, hrv9⟩ := hcut
  clear c0 c1 c2
  have H : Hid (Below w.heap.size w wc) := H.out.trans (hb.mono H.out.size)
  have BX := hide (BX.out.keep hb)
  have Rv3 := hide (Rv3.out.keep hb)
  have Rv5 := hide (Rv5.out.keep hb)
  have mwc := hb.size
  have Rv9 := hide hrv9
  clear hb hrv9
  go_wp2_with fail
  refine (eqEntryS_same _ _ R _ (Rv9.out.ents HZ.out) (Rv3.out.ents HZ.out)).mono ?_
  rintro e1 w14 ⟨rfl, hb⟩
  have H : Hid (Below w.heap.size w w14) := H.out.trans (hb.mono H.out.size)
  have BX := hide (BX.out.keep hb)
  have Rv3 := hide (Rv3.out.keep hb)
  have Rv5 := hide (Rv5.out.keep hb)
  have Rv9 := hide (Rv9.out.keep hb)
  have mw14 := hb.size
  clear hb
  go_wp2_with fail
  refine (heldEntryS_any gv5 R.length 1 _ _ Rv5.out (by omega) (by have := HL.out; omega)).mono ?_
  rintro e1 w15 ⟨rfl, hb⟩
  have H : Hid (Below w.heap.size w w15) := H.out.trans (hb.mono H.out.size)
  have BX := hide (BX.out.keep hb)
  have Rv3 := hide (Rv3.out.keep hb)
  have Rv5 := hide (Rv5.out.keep hb)
  have Rv9 := hide (Rv9.out.keep hb)
  have mw15 := hb.size
  clear hb
  go_wp2_with fail
  go_ret
  exact ⟨rfl, H.out⟩
end Go.Proofs.Yteikeljklfblmaa
