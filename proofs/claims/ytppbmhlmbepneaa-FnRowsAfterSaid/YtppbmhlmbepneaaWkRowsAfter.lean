/-
  The walk of FnRowsAfter.
-/
import Derived.Test.YtppbmhlmbepneaaWkBase
set_option linter.all false
namespace Go.Proofs.Ytppbmhlmbepneaa
open Go.RowKit
set_option maxHeartbeats 16000000 in
set_option maxRecDepth 100000 in
theorem fnRowsAfter_walk (v : Value) (w : World) (h : BytesAt w v) :
    Calls Try.prog 4 #[v] w fun e w' => e = .returned (.bool true) ∧ Below w.heap.size w w' := by
  have hB := hide h
  obtain ⟨a, len, cap0, rfl, hlc, hcap0, hr⟩ := h
  clear hr
  obtain ⟨i0, hi, hz0, hz1, hz2⟩ := info_parts infoMove
  by_cases hlen : 1048576 < len
  · go_enter Try.func4, Try.ntmps4
    go_wp2_with fail
    go_ret
    exact ⟨rfl, Below.refl _ _⟩
  go_enter Try.func4, Try.ntmps4
  go_wp2_with fail
  refine (drawRowsAfter_any _ _ hB.out).mono ?_
  rintro e w1 ⟨vr, l, vm, ms, rfl, hoi, hom, hl9, hm17, hb⟩
  have H := hide hb
  have RI := hide hoi.itms
  have RM := hide hom.rows
  have NL := hide (nilOk_own hoi)
  have OM := hide hom
  obtain ⟨ra0, rc0, rfl, -⟩ := own_slc hoi
  obtain ⟨ma0, mc0, rfl, -⟩ := own_slc hom
  clear hb hoi hom hB hlen hlc hcap0
  go_wp2_with fail
  refine (iRowsAfter_any _ _ l ms _ RI.out RM.out).mono ?_
  rintro e w2 ⟨v2, r2, rfl, hrel, ho, hb⟩
  have H : Hid (Below w.heap.size w w2) := H.out.trans (hb.mono H.out.size)
  have RI := hide (RI.out.keep hb)
  have RM := hide (RM.out.keep hb)
  have CK2 := hide hrel
  have V2 := hide ho.itms
  obtain ⟨a2, c2, rfl, -⟩ := own_slc ho
  clear hrel hb ho
  go_wp2_with fail
  refine (sRowsAfter_any _ _ l ms _ RI.out NL.out RM.out).mono ?_
  rintro e w3 ⟨v3, r3, rfl, hrel, ho, hb⟩
  have H : Hid (Below w.heap.size w w3) := H.out.trans (hb.mono H.out.size)
  have RI := hide (RI.out.keep hb)
  have RM := hide (RM.out.keep hb)
  have V2 := hide (V2.out.keep hb)
  have CK3 := hide hrel
  have V3 := hide ho.itms
  obtain ⟨a3, c3, rfl, -⟩ := own_slc ho
  clear hrel hb ho
  have hu := AftOf.uniq CK3.out CK2.out
  subst hu
  go_wp2_with fail
  refine (equalItems_same _ _ r3 _ V2.out V3.out).mono ?_
  rintro e w4 ⟨rfl, hb⟩
  have H : Hid (Below w.heap.size w w4) := H.out.trans (hb.mono H.out.size)
  have RI := hide (RI.out.keep hb)
  have RM := hide (RM.out.keep hb)
  have V2 := hide (V2.out.keep hb)
  have V3 := hide (V3.out.keep hb)
  clear hb
  clear V3
  by_cases h0 : r3 = []
  · have dz : ((r3.length : Int) == 0) = true := by simp [h0]
    have HZ0 := hide h0
    clear h0
    go_wp2_with fail
    refine (sRowsAfter_any _ _ l ms _ RI.out NL.out RM.out).mono ?_
    rintro e w5 ⟨v5, r5, rfl, hrel, ho, hb⟩
    have H : Hid (Below w.heap.size w w5) := H.out.trans (hb.mono H.out.size)
    have RI := hide (RI.out.keep hb)
    have RM := hide (RM.out.keep hb)
    have V2 := hide (V2.out.keep hb)
    have CK5 := hide hrel
    have V5 := hide ho.itms
    obtain ⟨a5, c5, rfl, -⟩ := own_slc ho
    clear hrel hb ho
    have hu := AftOf.uniq CK5.out CK2.out
    subst hu
    go_wp2_with fail
    refine (equalItems_same _ _ r5 _ V2.out V5.out).mono ?_
    rintro e w6 ⟨rfl, hb⟩
    have H : Hid (Below w.heap.size w w6) := H.out.trans (hb.mono H.out.size)
    have RI := hide (RI.out.keep hb)
    have RM := hide (RM.out.keep hb)
    have V2 := hide (V2.out.keep hb)
    have V5 := hide (V5.out.keep hb)
    clear hb
    go_wp2_with fail
    go_ret
    exact ⟨rfl, H.out⟩
  have dz : ((r3.length : Int) == 0) = false := by simpa using h0
  have HNE := hide h0
  have HAS := hide (CK2.out.asc)
  clear h0
  have HM := hide RM.out
  obtain ⟨ua, uc, hue, hul, huc, hd⟩ := RM.out
  injection hue with hue1 hue2 hue3
  subst hue1 hue3
  have hws := H.out.size
  have B0 : Hid (Below w4.heap.size w4 (w4.alloc (.cells #[] 42))) := below_box w4 _
  have O0 : Hid (OwnM w4.heap.size (w4.alloc (.cells #[] 42)) (.slice (some ⟨w4.heap.size, 0, none⟩) 0 0) []) := own_lit_at rfl (Nat.le_refl _)
  clear hue2
  go_wp2_with fail
  go_loopg [6, 7] ms.length (fun gk s6 s7 wr => Below w4.heap.size w4 wr ∧ ∃ k : Nat, k + gk = ms.length ∧ s7 = .int .i64 (k : Int) ∧ ∃ g6 c6, s6 = .slice (some ⟨g6, 0, none⟩) (chs (ms.take k)).length c6 ∧ OwnM w4.heap.size wr (.slice (some ⟨g6, 0, none⟩) (chs (ms.take k)).length c6) (chs (ms.take k)))
  case atStart => exact ⟨B0.out, 0, by omega, rfl, w4.heap.size, 0, rfl, O0.out⟩
  case round =>
    clear B0 O0
    obtain ⟨hbw, k, hk, rfl, g6, c6, rfl, hown⟩ := hrel
    have HW := hide hbw
    have HO := hide hown
    have hg6 := (World.ownsRow.lt hown g6 rfl).1
    clear hown
    by_cases hlt : k < ms.length
    · obtain ⟨b, off, hbe, hbb, hcell⟩ := hd.resolve_left (by rintro rfl; simp at hlt)
      subst hbe
      have hbl := Nat.lt_of_lt_of_le hbb hbw.size
      have E := hide ((hcell k hlt).keep hbw)
      have HS := hide (chs_step hlt)
      have hcl := Nat.le_trans (chs_len (ms.take k)) (List.length_take_le k ms)
      obtain ⟨m, hm⟩ : ∃ m, ms[k] = m := ⟨_, rfl⟩
      rw [hm] at E HS
      clear hcell hd hbw hm
      obtain ⟨L1, hL1⟩ : ∃ L1, chs (ms.take (k + 1)) = L1 := ⟨_, rfl⟩
      obtain ⟨L0, hL0⟩ : ∃ L0, chs (ms.take k) = L0 := ⟨_, rfl⟩
      have HL1 := hide hL1
      rw [hL0] at HS HO hcl ⊢
      rw [hL1] at HS
      clear hL1 hL0
      have hzw := HW.out.size
      obtain ⟨sc, gn, row, key⟩ := m
      obtain ⟨e0, e1, e2, e3⟩ := E.out
      simp only at e0 e1 e2 e3
      cases sc with
      | true =>
        have HE : Hid (L1 = L0) := HS.out.trans (by simp [isCh])
        go_wp2_with fail
        go_roundg (gk - 1)
        case measure => omega
        case rel => exact ⟨HW.out, k + 1, by omega, by go_num, g6, c6, by rw [HL1.out, HE.out], by rw [HL1.out, HE.out]; exact HO.out⟩
      | false =>
        have HE : Hid (L1 = L0 ++ [⟨false, gn, row, key⟩]) := HS.out.trans (by simp [isCh])
        go_wp2_with (at_builtin; refine wpList_append_lies _ rfl (.tmp 49) (.tmp 54) 37 rfl w4.heap.size 42 i0 _ 4 24 Try.underlying37 hi hz0 hz1 hz2 rfl (by decide) _ _ _ rfl (World.ownsRow.alloc HO.out _) ⟨_, 0, none⟩ 1 1 [.bool false, .bool gn, .int .i64 row, .int .i64 key] rfl rfl ?c1 ?h1 (by decide) ?h63 ?hb ?hbase _ rfl ?next)
        case c1 => exact World.news_of_block (cs := #[.bool false, .bool gn, .int .i64 row, .int .i64 key]) (blk_at rfl _)
        case h1 => intro u hu; simp at hu; rcases hu with rfl | rfl | rfl | rfl <;> rfl
        case h63 => unfold maxLen; omega
        case hb => omega
        case hbase => simp; omega
        case next =>
          intro g8 c8 w8 hown hgrow hat hlt8
          have HN : Hid (OwnM w4.heap.size w8 (.slice (some ⟨g8, 0, none⟩) (L0.length + 1) c8) L1) := by
            rw [HE.out]
            unfold Hid OwnM
            rw [mvCells_app, List.length_append]
            exact hown
          have HLL : Hid (L1.length = L0.length + 1) := by unfold Hid; rw [HE.out]; simp
          have H8 : Hid (Below w4.heap.size w4 w8) := (HW.out.alloc HW.out.size _).grown hgrow (by simp; omega) (fun q hq => by cases hq; omega)
          clear hown hgrow hat
          go_wp2_with fail
          go_roundg (gk - 1)
          case measure => omega
          case rel => exact ⟨H8.out, k + 1, by omega, by go_num, g8, c8, by rw [HL1.out, HLL.out], by rw [HL1.out, HLL.out]; exact HN.out⟩
    · have hkl : k = ms.length := by omega
      subst hkl
      rw [List.take_length] at HO
      rw [List.take_length]
      have hb := hbw
      have H : Hid (Below w.heap.size w wr) := H.out.trans (hb.mono H.out.size)
      have RI := hide (RI.out.keep hb)
      have RM := hide (RM.out.keep hb)
      have V2 := hide (V2.out.keep hb)
      have OL := hide HO.out.rows
      clear hb hbw HM
      have HV := hide V2.out
      obtain ⟨oa, oc, hoe, hol, hoc, hod⟩ := V2.out
      injection hoe with hoe1 hoe2 hoe3
      subst hoe1 hoe3
      rename World => Y
      clear hoe2
      go_wp2_with fail
      go_loopg [8] (r3.length - 1) (fun gq s8 wq => Below Y.heap.size Y wq ∧ ∃ j : Nat, j + gq = r3.length - 1 ∧ s8 = .int .i64 ((j + 1 : Nat) : Int))
      case atStart => exact ⟨Below.refl _ _, 0, by omega, by go_num⟩
      case round =>
        obtain ⟨hbq, j, hj, rfl⟩ := hrel
        have HQ := hide hbq
        by_cases hlj : j + 1 < r3.length
        · obtain ⟨b2, off2, hbe2, hbb2, hcell2⟩ := hod.resolve_left (by rintro rfl; simp at hlj)
          subst hbe2
          have hbl2 := Nat.lt_of_lt_of_le hbb2 hbq.size
          have E1 := hide ((hcell2 (j + 1) hlj).keep hbq)
          have E2 := hide ((hcell2 j (by omega)).keep hbq)
          have hnx : r3[j].r < r3[j + 1].r := List.pairwise_iff_getElem.1 HAS.out j (j + 1) (by omega) hlj (by omega)
          have dq : decide (r3[j + 1].r ≤ r3[j].r) = false := decide_eq_false (by omega)
          clear hcell2 hod hbq hnx
          generalize r3[j + 1] = x1 at *
          generalize r3[j] = x2 at *
          have g1 := fun z : BW wr => bw_cell (p := ⟨b2, off2 + (j + 1) * 2 + 1, none⟩) hbl2 E1.out.2 z
          have g2 := fun z : BW wr => bw_cell (p := ⟨b2, off2 + j * 2 + 1, none⟩) hbl2 E2.out.2 z
          go_wp2_with fail
          refine wp_region_bw (by kernel_rfl) (by kernel_rfl) ?_
          repeat (go_big_quiet_step (fail))
          refine wpQuiet_nil ?_
          rintro _ ⟨z, rfl⟩
          have H1 : Hid (Below Y.heap.size Y z.v) := HQ.out.trans (z.h.mono HQ.out.size)
          clear g1 g2
          go_wp2_with fail
          go_roundg (gk - 1)
          case measure => omega
          case rel => exact ⟨H1.out, j + 1, by omega, by go_num⟩
        · have hb := hbq
          have H : Hid (Below w.heap.size w wr) := H.out.trans (hb.mono H.out.size)
          have RI := hide (RI.out.keep hb)
          have RM := hide (RM.out.keep hb)
          have V2 := hide (V2.out.keep hb)
          have OL := hide (OL.out.keep hb)
          clear hb hbq hod
          go_wp2_with fail
          refine (iRowsAfter_any _ _ l (chs ms) _ RI.out OL.out).mono ?_
          rintro e w7 ⟨v7, r7, rfl, hrel, ho, hb⟩
          have H : Hid (Below w.heap.size w w7) := H.out.trans (hb.mono H.out.size)
          have RI := hide (RI.out.keep hb)
          have RM := hide (RM.out.keep hb)
          have V2 := hide (V2.out.keep hb)
          have OL := hide (OL.out.keep hb)
          have CK7 := hide hrel
          have V7 := hide ho.itms
          obtain ⟨a7, c7, rfl, -⟩ := own_slc ho
          clear hrel hb ho
          have hu := AftOf.chs CK2.out HNE.out CK7.out
          subst hu
          go_wp2_with fail
          refine (equalItems_same _ _ r7 _ V7.out V2.out).mono ?_
          rintro e w8 ⟨rfl, hb⟩
          have H : Hid (Below w.heap.size w w8) := H.out.trans (hb.mono H.out.size)
          have RI := hide (RI.out.keep hb)
          have RM := hide (RM.out.keep hb)
          have V2 := hide (V2.out.keep hb)
          have OL := hide (OL.out.keep hb)
          have V7 := hide (V7.out.keep hb)
          clear hb
          go_wp2_with fail
          go_ret
          exact ⟨rfl, H.out⟩
end Go.Proofs.Ytppbmhlmbepneaa
