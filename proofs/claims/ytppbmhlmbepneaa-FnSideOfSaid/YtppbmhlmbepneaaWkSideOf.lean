/-
  The walk of FnSideOf.
-/
import Derived.Test.YtppbmhlmbepneaaWkBase
set_option linter.all false
namespace Go.Proofs.Ytppbmhlmbepneaa
open Go.RowKit
set_option maxHeartbeats 16000000 in
set_option maxRecDepth 100000 in
theorem fnSideOf_walk (v : Value) (w : World) (h : BytesAt w v) :
    Calls Try.prog 6 #[v] w fun e w' => e = .returned (.bool true) ∧ Below w.heap.size w w' := by
  have hB := hide h
  obtain ⟨a, len, cap0, rfl, hlc, hcap0, hr⟩ := h
  clear hr
  obtain ⟨i0, hi, hz0, hz1, hz2⟩ := info_parts infoMove
  by_cases hlen : 1048576 < len
  · go_enter Try.func6, Try.ntmps6
    go_wp2_with fail
    go_ret
    exact ⟨rfl, Below.refl _ _⟩
  go_enter Try.func6, Try.ntmps6
  go_wp2_with fail
  refine (drawSideOf_any _ _ hB.out).mono ?_
  rintro e w1 ⟨vr, l, vm, ms, rfl, hoi, hom, hl9, hm17, hb⟩
  have H := hide hb
  have RI := hide hoi.itms
  have RM := hide hom.rows
  have NL := hide (nilOk_own hoi)
  have OM := hide hom
  obtain ⟨ra0, rc0, rfl, -⟩ := own_slc hoi
  obtain ⟨ma0, mc0, rfl, -⟩ := own_slc hom
  clear hb hoi hom hB hlen hlc hcap0
  go_wp2_with fail
  refine (iSideOf_any _ _ l ms _ RI.out RM.out).mono ?_
  rintro e w2 ⟨v2, r2, rfl, hrel, ho, hb⟩
  have H : Hid (Below w.heap.size w w2) := H.out.trans (hb.mono H.out.size)
  have RI := hide (RI.out.keep hb)
  have RM := hide (RM.out.keep hb)
  have CK2 := hide hrel
  have V2 := hide ho.rows
  obtain ⟨a2, c2, rfl, -⟩ := own_slc ho
  clear hrel hb ho
  go_wp2_with fail
  refine (sSideOf_any _ _ l ms _ RI.out NL.out RM.out).mono ?_
  rintro e w3 ⟨v3, r3, rfl, hrel, ho, hb⟩
  have H : Hid (Below w.heap.size w w3) := H.out.trans (hb.mono H.out.size)
  have RI := hide (RI.out.keep hb)
  have RM := hide (RM.out.keep hb)
  have V2 := hide (V2.out.keep hb)
  have CK3 := hide hrel
  have V3 := hide ho.rows
  obtain ⟨a3, c3, rfl, -⟩ := own_slc ho
  clear hrel hb ho
  have hu := SidOf.uniq CK3.out CK2.out
  subst hu
  go_wp2_with fail
  refine (equalMoves_same _ _ r3 _ V2.out V3.out).mono ?_
  rintro e w4 ⟨rfl, hb⟩
  have H : Hid (Below w.heap.size w w4) := H.out.trans (hb.mono H.out.size)
  have RI := hide (RI.out.keep hb)
  have RM := hide (RM.out.keep hb)
  have V2 := hide (V2.out.keep hb)
  have V3 := hide (V3.out.keep hb)
  clear hb
  clear V3
  have HNS := hide CK2.out.noscan
  have HCL := hide CK2.out.chs_len
  have HM := hide RM.out
  obtain ⟨ua, uc, hue, hul, huc, hd⟩ := RM.out
  injection hue with hue1 hue2 hue3
  subst hue1 hue3
  have hws := H.out.size
  have B0 : Hid (Below w4.heap.size w4 (w4.alloc (.cells #[] 42))) := below_box w4 _
  have O0 : Hid (OwnM w4.heap.size (w4.alloc (.cells #[] 42)) (.slice (some ⟨w4.heap.size, 0, none⟩) 0 0) []) := own_lit_at rfl (Nat.le_refl _)
  clear hue2
  go_wp2_with fail
  go_loopg [6, 7] ms.length (fun gk s6 s7 wr => Below w4.heap.size w4 wr ∧ ∃ k : Nat, k + gk = ms.length ∧ s7 = .int .i64 (k : Int) ∧ ∃ g6 c6, s6 = .slice (some ⟨g6, 0, none⟩) (chs (ms.take k)).length c6 ∧ OwnM w4.heap.size wr (.slice (some ⟨g6, 0, none⟩) (chs (ms.take k)).length c6) (chs (ms.take k)))
  case atStart => exact ⟨B0.out, 0, by omega, rfl, w4.heap.size, 0, rfl, O0.out⟩
  case round =>
    clear B0 O0
    obtain ⟨hbw, k, hk, rfl, g6, c6, rfl, hown⟩ := hrel
    have HW := hide hbw
    have HO := hide hown
    have hg6 := (World.ownsRow.lt hown g6 rfl).1
    clear hown
    by_cases hlt : k < ms.length
    · obtain ⟨b, off, hbe, hbb, hcell⟩ := hd.resolve_left (by rintro rfl; simp at hlt)
      subst hbe
      have hbl := Nat.lt_of_lt_of_le hbb hbw.size
      have E := hide ((hcell k hlt).keep hbw)
      have HS := hide (chs_step hlt)
      have hcl := Nat.le_trans (chs_len (ms.take k)) (List.length_take_le k ms)
      obtain ⟨m, hm⟩ : ∃ m, ms[k] = m := ⟨_, rfl⟩
      rw [hm] at E HS
      clear hcell hd hbw hm
      obtain ⟨L1, hL1⟩ : ∃ L1, chs (ms.take (k + 1)) = L1 := ⟨_, rfl⟩
      obtain ⟨L0, hL0⟩ : ∃ L0, chs (ms.take k) = L0 := ⟨_, rfl⟩
      have HL1 := hide hL1
      rw [hL0] at HS HO hcl ⊢
      rw [hL1] at HS
      clear hL1 hL0
      have hzw := HW.out.size
      obtain ⟨sc, gn, row, key⟩ := m
      obtain ⟨e0, e1, e2, e3⟩ := E.out
      simp only at e0 e1 e2 e3
      cases sc with
      | true =>
        have HE : Hid (L1 = L0) := HS.out.trans (by simp [isCh])
        go_wp2_with fail
        go_roundg (gk - 1)
        case measure => omega
        case rel => exact ⟨HW.out, k + 1, by omega, by go_num, g6, c6, by rw [HL1.out, HE.out], by rw [HL1.out, HE.out]; exact HO.out⟩
      | false =>
        have HE : Hid (L1 = L0 ++ [⟨false, gn, row, key⟩]) := HS.out.trans (by simp [isCh])
        go_wp2_with (at_builtin; refine wpList_append_lies _ rfl (.tmp 39) (.tmp 44) 37 rfl w4.heap.size 42 i0 _ 4 24 Try.underlying37 hi hz0 hz1 hz2 rfl (by decide) _ _ _ rfl (World.ownsRow.alloc HO.out _) ⟨_, 0, none⟩ 1 1 [.bool false, .bool gn, .int .i64 row, .int .i64 key] rfl rfl ?c1 ?h1 (by decide) ?h63 ?hb ?hbase _ rfl ?next)
        case c1 => exact World.news_of_block (cs := #[.bool false, .bool gn, .int .i64 row, .int .i64 key]) (blk_at rfl _)
        case h1 => intro u hu; simp at hu; rcases hu with rfl | rfl | rfl | rfl <;> rfl
        case h63 => unfold maxLen; omega
        case hb => omega
        case hbase => simp; omega
        case next =>
          intro g8 c8 w8 hown hgrow hat hlt8
          have HN : Hid (OwnM w4.heap.size w8 (.slice (some ⟨g8, 0, none⟩) (L0.length + 1) c8) L1) := by
            rw [HE.out]
            unfold Hid OwnM
            rw [mvCells_app, List.length_append]
            exact hown
          have HLL : Hid (L1.length = L0.length + 1) := by unfold Hid; rw [HE.out]; simp
          have H8 : Hid (Below w4.heap.size w4 w8) := (HW.out.alloc HW.out.size _).grown hgrow (by simp; omega) (fun q hq => by cases hq; omega)
          clear hown hgrow hat
          go_wp2_with fail
          go_roundg (gk - 1)
          case measure => omega
          case rel => exact ⟨H8.out, k + 1, by omega, by go_num, g8, c8, by rw [HL1.out, HLL.out], by rw [HL1.out, HLL.out]; exact HN.out⟩
    · have hkl : k = ms.length := by omega
      subst hkl
      rw [List.take_length] at HO
      rw [List.take_length]
      have hb := hbw
      have H : Hid (Below w.heap.size w wr) := H.out.trans (hb.mono H.out.size)
      have RI := hide (RI.out.keep hb)
      have RM := hide (RM.out.keep hb)
      have V2 := hide (V2.out.keep hb)
      have OL := hide HO.out.rows
      clear hb hbw HM
      obtain ⟨oa, oc, hoe, hol, hoc, hod⟩ := V2.out
      injection hoe with hoe1 hoe2 hoe3
      subst hoe1 hoe3
      rename World => Y
      clear hoe2
      go_wp2_with fail
      go_loopg [8] r3.length (fun gq s8 wq => Below Y.heap.size Y wq ∧ ∃ j : Nat, j + gq = r3.length ∧ s8 = .int .i64 (j : Int))
      case atStart => exact ⟨Below.refl _ _, 0, by omega, rfl⟩
      case round =>
        obtain ⟨hbq, j, hj, rfl⟩ := hrel
        have HQ := hide hbq
        by_cases hlj : j < r3.length
        · obtain ⟨b2, off2, hbe2, hbb2, hcell2⟩ := hod.resolve_left (by rintro rfl; simp at hlj)
          subst hbe2
          have hbl2 := Nat.lt_of_lt_of_le hbb2 hbq.size
          have e0 := ((hcell2 j hlj).keep hbq).1
          rw [HNS.out _ (List.getElem_mem hlj)] at e0
          clear hcell2 hod hbq
          go_wp2_with fail
          go_roundg (gk - 1)
          case measure => omega
          case rel => exact ⟨HQ.out, j + 1, by omega, by go_num⟩
        · have hb := hbq
          have H : Hid (Below w.heap.size w wr) := H.out.trans (hb.mono H.out.size)
          have RI := hide (RI.out.keep hb)
          have RM := hide (RM.out.keep hb)
          have V2 := hide (V2.out.keep hb)
          have OL := hide (OL.out.keep hb)
          clear hb hbq hod
          have hch := chs_len ms
          have dle : decide ((r3.length : Int) ≤ 2 * ((chs ms).length : Int)) = true := decide_eq_true (by have := HCL.out; omega)
          go_wp2_with fail
          refine (iSideOf_any _ _ l (chs ms) _ RI.out OL.out).mono ?_
          rintro e w5 ⟨v7, r7, rfl, hrel, ho, hb⟩
          have H : Hid (Below w.heap.size w w5) := H.out.trans (hb.mono H.out.size)
          have RI := hide (RI.out.keep hb)
          have RM := hide (RM.out.keep hb)
          have V2 := hide (V2.out.keep hb)
          have OL := hide (OL.out.keep hb)
          have CK7 := hide hrel
          have V7 := hide ho.rows
          obtain ⟨a7, c7, rfl, -⟩ := own_slc ho
          clear hrel hb ho
          have hu := SidOf.none CK7.out
          subst hu
          go_wp2_with fail
          go_ret
          exact ⟨rfl, H.out⟩
end Go.Proofs.Ytppbmhlmbepneaa
