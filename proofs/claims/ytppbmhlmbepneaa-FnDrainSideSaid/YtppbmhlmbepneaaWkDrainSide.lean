/-
  The walk of FnDrainSide.
-/
import Derived.Test.YtppbmhlmbepneaaWkBase
import Derived.Test.YtppbmhlmbepneaaMovesGen2
set_option linter.all false
namespace Go.Proofs.Ytppbmhlmbepneaa
open Go.RowKit
set_option maxHeartbeats 16000000 in
set_option maxRecDepth 100000 in
theorem fnDrainSide_walk (v : Value) (w : World) (h : BytesAt w v) :
    Calls Try.prog 7 #[v] w fun e w' => e = .returned (.bool true) ∧ Below w.heap.size w w' := by
  have hB := hide h
  obtain ⟨a, len, cap0, rfl, hlc, hcap0, hr⟩ := h
  clear hr
  obtain ⟨i0, hi, hz0, hz1, hz2⟩ := info_parts infoMove
  by_cases hlen : 1048576 < len
  · go_enter Try.func7, Try.ntmps7
    go_wp2_with fail
    go_ret
    exact ⟨rfl, Below.refl _ _⟩
  go_enter Try.func7, Try.ntmps7
  go_wp2_with fail
  refine (drawDrainSide_any _ _ hB.out).mono ?_
  rintro e w1 ⟨vr, l, vm, ms, rfl, hoi, hom, hl9, hm17, hb⟩
  have H := hide hb
  have RI := hide hoi.itms
  have RM := hide hom.rows
  have NL := hide (nilOk_own hoi)
  have OM := hide hom
  obtain ⟨ra0, rc0, rfl, -⟩ := own_slc hoi
  obtain ⟨ma0, mc0, rfl, -⟩ := own_slc hom
  clear hb hoi hom hB hlen hlc hcap0
  go_wp2_with fail
  refine (iDrainSide_any _ _ l ms _ RI.out RM.out).mono ?_
  rintro e w2 ⟨v2, r2, rfl, hrel, ho, hb⟩
  have H : Hid (Below w.heap.size w w2) := H.out.trans (hb.mono H.out.size)
  have RI := hide (RI.out.keep hb)
  have RM := hide (RM.out.keep hb)
  have CK2 := hide hrel
  have V2 := hide ho.itms
  obtain ⟨a2, c2, rfl, -⟩ := own_slc ho
  clear hrel hb ho
  go_wp2_with fail
  refine (sDrainSide_any _ _ l ms _ RI.out NL.out RM.out).mono ?_
  rintro e w3 ⟨v3, r3, rfl, hrel, ho, hb⟩
  have H : Hid (Below w.heap.size w w3) := H.out.trans (hb.mono H.out.size)
  have RI := hide (RI.out.keep hb)
  have RM := hide (RM.out.keep hb)
  have V2 := hide (V2.out.keep hb)
  have CK3 := hide hrel
  have V3 := hide ho.itms
  obtain ⟨a3, c3, rfl, -⟩ := own_slc ho
  clear hrel hb ho
  have hu := DrnOf.uniq CK3.out CK2.out
  subst hu
  go_wp2_with fail
  refine (equalItems_same _ _ r3 _ V2.out V3.out).mono ?_
  rintro e w4 ⟨rfl, hb⟩
  have H : Hid (Below w.heap.size w w4) := H.out.trans (hb.mono H.out.size)
  have RI := hide (RI.out.keep hb)
  have RM := hide (RM.out.keep hb)
  have V2 := hide (V2.out.keep hb)
  have V3 := hide (V3.out.keep hb)
  clear hb
  clear V3
  by_cases h0 : r3 = []
  · have dz : ((r3.length : Int) == 0) = true := by simp [h0]
    have HZ0 := hide h0
    clear h0
    go_wp2_with fail
    refine (sDrainSide_any _ _ l ms _ RI.out NL.out RM.out).mono ?_
    rintro e w5 ⟨v5, r5, rfl, hrel, ho, hb⟩
    have H : Hid (Below w.heap.size w w5) := H.out.trans (hb.mono H.out.size)
    have RI := hide (RI.out.keep hb)
    have RM := hide (RM.out.keep hb)
    have V2 := hide (V2.out.keep hb)
    have CK5 := hide hrel
    have V5 := hide ho.itms
    obtain ⟨a5, c5, rfl, -⟩ := own_slc ho
    clear hrel hb ho
    have hu := DrnOf.uniq CK5.out CK2.out
    subst hu
    go_wp2_with fail
    refine (equalItems_same _ _ r5 _ V2.out V5.out).mono ?_
    rintro e w6 ⟨rfl, hb⟩
    have H : Hid (Below w.heap.size w w6) := H.out.trans (hb.mono H.out.size)
    have RI := hide (RI.out.keep hb)
    have RM := hide (RM.out.keep hb)
    have V2 := hide (V2.out.keep hb)
    have V5 := hide (V5.out.keep hb)
    clear hb
    go_wp2_with fail
    go_ret
    exact ⟨rfl, H.out⟩
  have dz : ((r3.length : Int) == 0) = false := by simpa using h0
  have HNE := hide h0
  clear h0
  by_cases h30 : (30 : Int) < (r3.length : Int)
  · have d30 : decide ((30 : Int) < (r3.length : Int)) = true := decide_eq_true h30
    have HZ0 := hide h30
    clear h30
    go_wp2_with fail
    refine (sDrainSide_any _ _ l ms _ RI.out NL.out RM.out).mono ?_
    rintro e w5 ⟨v5, r5, rfl, hrel, ho, hb⟩
    have H : Hid (Below w.heap.size w w5) := H.out.trans (hb.mono H.out.size)
    have RI := hide (RI.out.keep hb)
    have RM := hide (RM.out.keep hb)
    have V2 := hide (V2.out.keep hb)
    have CK5 := hide hrel
    have V5 := hide ho.itms
    obtain ⟨a5, c5, rfl, -⟩ := own_slc ho
    clear hrel hb ho
    have hu := DrnOf.uniq CK5.out CK2.out
    subst hu
    go_wp2_with fail
    refine (equalItems_same _ _ r5 _ V2.out V5.out).mono ?_
    rintro e w6 ⟨rfl, hb⟩
    have H : Hid (Below w.heap.size w w6) := H.out.trans (hb.mono H.out.size)
    have RI := hide (RI.out.keep hb)
    have RM := hide (RM.out.keep hb)
    have V2 := hide (V2.out.keep hb)
    have V5 := hide (V5.out.keep hb)
    clear hb
    go_wp2_with fail
    go_ret
    exact ⟨rfl, H.out⟩
  have d30 : decide ((30 : Int) < (r3.length : Int)) = false := decide_eq_false h30
  have HL30 : Hid (r3.length ≤ 30) := by unfold Hid; omega
  have HSRT := hide (CK2.out.srt HNE.out)
  clear h30
  have B0 : Hid (Below w4.heap.size w4 (w4.alloc (.cells #[] 42))) := below_box w4 _
  have O0 : Hid (OwnM w4.heap.size (w4.alloc (.cells #[] 42)) (.slice (some ⟨w4.heap.size, 0, none⟩) 0 0) []) := own_lit_at rfl (Nat.le_refl _)
  by_cases hm0 : ms.length = 0
  · have dm : decide ((0 : Int) < (ms.length : Int)) = false := decide_eq_false (by omega)
    have dm2 : decide (0 < ms.length) = false := decide_eq_false (by omega)
    have dm3 : ¬ 0 < ms.length := by omega
    have HLM : Hid (lastM ms = []) := by unfold Hid lastM; rw [List.drop_eq_nil_of_le (by omega)]
    have HM0 := hide hm0
    clear hm0
    have hb := B0.out
    have H : Hid (Below w.heap.size w (w4.alloc (.cells #[] 42))) := H.out.trans (hb.mono H.out.size)
    have RI := hide (RI.out.keep hb)
    have RM := hide (RM.out.keep hb)
    have V2 := hide (V2.out.keep hb)
    have OL : Hid (Moves (w4.alloc (.cells #[] 42)) (.slice (some ⟨w4.heap.size, 0, none⟩) 0 0) (lastM ms)) := by rw [HLM.out]; exact O0.out.rows
    clear hb
    go_wp2_with fail
    refine (iDrainSide_any _ _ r3 (lastM ms) _ V2.out OL.out).mono ?_
    rintro e w5 ⟨v7, r7, rfl, hrel, ho, hb⟩
    have H : Hid (Below w.heap.size w w5) := H.out.trans (hb.mono H.out.size)
    have RI := hide (RI.out.keep hb)
    have RM := hide (RM.out.keep hb)
    have V2 := hide (V2.out.keep hb)
    have OL := hide (OL.out.keep hb)
    have CK7 := hide hrel
    have V7 := hide ho.itms
    obtain ⟨a7, c7, rfl, -⟩ := own_slc ho
    clear hrel hb ho
    have hu := DrnOf.twice CK2.out HNE.out HL30.out CK7.out
    subst hu
    obtain ⟨oa, oc, hoe, hol, hoc, hod⟩ := V2.out
    injection hoe with hoe1 hoe2 hoe3
    subst hoe1 hoe3
    clear hoe2
    go_wp2_with fail
    go_loopg [8] (r7.length - 1) (fun gq s8 wq => Below w5.heap.size w5 wq ∧ ∃ j : Nat, j + gq = r7.length - 1 ∧ s8 = .int .i64 ((j + 1 : Nat) : Int))
    case atStart => exact ⟨Below.refl _ _, 0, by omega, by go_num⟩
    case round =>
      obtain ⟨hbq, j, hj, rfl⟩ := hrel
      have HQ := hide hbq
      by_cases hlj : j + 1 < r7.length
      · obtain ⟨b2, off2, hbe2, hbb2, hcell2⟩ := hod.resolve_left (by rintro rfl; simp at hlj)
        subst hbe2
        have hbl2 := Nat.lt_of_lt_of_le hbb2 hbq.size
        have E1 := hide ((hcell2 (j + 1) hlj).keep hbq)
        have E2 := hide ((hcell2 j (by omega)).keep hbq)
        have HNX := hide (show lessP r7[j] r7[j + 1] from List.pairwise_iff_getElem.1 HSRT.out j (j + 1) (by omega) hlj (by omega))
        clear hcell2 hod hbq
        generalize r7[j + 1] = x1 at *
        generalize r7[j] = x2 at *
        have hnx := HNX.out
        simp only [lessP, lessI, decide_eq_true_eq] at hnx
        have dq : decide (x1.k < x2.k) = false := decide_eq_false (by omega)
        have g0 := fun z : BW wr => bw_cell (p := ⟨b2, off2 + (j + 1) * 2, none⟩) hbl2 E1.out.1 z
        have g1 := fun z : BW wr => bw_cell (p := ⟨b2, off2 + (j + 1) * 2 + 1, none⟩) hbl2 E1.out.2 z
        have g2 := fun z : BW wr => bw_cell (p := ⟨b2, off2 + j * 2, none⟩) hbl2 E2.out.1 z
        have g3 := fun z : BW wr => bw_cell (p := ⟨b2, off2 + j * 2 + 1, none⟩) hbl2 E2.out.2 z
        by_cases hke : x1.k = x2.k
        · have dke : (x1.k == x2.k) = true := by simpa using hke
          have dle : decide (x1.r ≤ x2.r) = false := decide_eq_false (by omega)
          clear hke hnx
          go_wp2_with fail
          refine wp_region_bw (by kernel_rfl) (by kernel_rfl) ?_
          repeat (go_big_quiet_step (fail))
          refine wpQuiet_nil ?_
          rintro _ ⟨z, rfl⟩
          have H1 : Hid (Below w5.heap.size w5 z.v) := HQ.out.trans (z.h.mono HQ.out.size)
          clear g0 g1 g2 g3
          go_wp2_with fail
          go_roundg (gk - 1)
          case measure => omega
          case rel => exact ⟨H1.out, j + 1, by omega, by go_num⟩
        · have dke : (x1.k == x2.k) = false := by simpa using hke
          clear hke hnx
          go_wp2_with fail
          refine wp_region_bw (by kernel_rfl) (by kernel_rfl) ?_
          repeat (go_big_quiet_step (fail))
          refine wpQuiet_nil ?_
          rintro _ ⟨z, rfl⟩
          have H1 : Hid (Below w5.heap.size w5 z.v) := HQ.out.trans (z.h.mono HQ.out.size)
          clear g0 g1 g2 g3
          go_wp2_with fail
          go_roundg (gk - 1)
          case measure => omega
          case rel => exact ⟨H1.out, j + 1, by omega, by go_num⟩
      · have hb := hbq
        have H : Hid (Below w.heap.size w wr) := H.out.trans (hb.mono H.out.size)
        have RI := hide (RI.out.keep hb)
        have RM := hide (RM.out.keep hb)
        have V2 := hide (V2.out.keep hb)
        have OL := hide (OL.out.keep hb)
        have V7 := hide (V7.out.keep hb)
        clear hb hbq hod
        go_wp2_with fail
        refine (equalItems_same _ _ r7 _ V7.out V2.out).mono ?_
        rintro e w6 ⟨rfl, hb⟩
        have H : Hid (Below w.heap.size w w6) := H.out.trans (hb.mono H.out.size)
        have RI := hide (RI.out.keep hb)
        have RM := hide (RM.out.keep hb)
        have V2 := hide (V2.out.keep hb)
        have OL := hide (OL.out.keep hb)
        have V7 := hide (V7.out.keep hb)
        clear hb
        go_wp2_with fail
        go_ret
        exact ⟨rfl, H.out⟩
  have dm : decide ((0 : Int) < (ms.length : Int)) = true := decide_eq_true (by omega)
  have dm2 : decide (0 < ms.length) = true := decide_eq_true (by omega)
  obtain ⟨m, hm⟩ : ∃ m, ms[ms.length - 1]'(by omega) = m := ⟨_, rfl⟩
  have HLM : Hid (lastM ms = [m]) := by
    unfold Hid lastM
    rw [List.drop_eq_getElem_cons (by omega), List.drop_eq_nil_of_le (by omega), hm]
  obtain ⟨mb, moff, hma, hmb, EM⟩ : ∃ b off, ma0 = some ⟨b, off, none⟩ ∧ b < w4.heap.size ∧ MoveAt w4 b (off + (ms.length - 1) * 4) m := by
    obtain ⟨ua, uc, hue, hul, huc, hd⟩ := RM.out
    injection hue with hue1 hue2 hue3
    obtain ⟨b, off, hbe, hbb, hcell⟩ := hd.resolve_left (by rintro rfl; simp at hm0)
    exact ⟨b, off, hue1.trans hbe, hbb, hm ▸ hcell (ms.length - 1) (by omega)⟩
  subst hma
  have EB := hide (EM.keep B0.out)
  obtain ⟨e0, e1, e2, e3⟩ := EB.out
  have hm1 : (ms.length : Int) - 1 = ((ms.length - 1 : Nat) : Int) := by omega
  have hm2 : ms.length - 1 < ms.length := by omega
  clear hm EM
  have HM0 := hide hm0
  clear hm0
  go_wp2_with (at_builtin; refine wpList_append_lies _ rfl (.tmp 45) (.tmp 52) 37 rfl w4.heap.size 42 i0 _ 4 24 Try.underlying37 hi hz0 hz1 hz2 rfl (by decide) _ _ _ rfl (World.ownsRow.alloc O0.out _) ⟨_, 0, none⟩ 1 1 [.bool m.scan, .bool m.gone, .int .i64 m.row, .int .i64 m.key] rfl rfl ?c1 ?h1 (by decide) ?h63 ?hb ?hbase _ rfl ?next)
  case c1 => exact World.news_of_block (cs := #[.bool m.scan, .bool m.gone, .int .i64 m.row, .int .i64 m.key]) (blk_at (by simp) _)
  case h1 => intro u hu; simp at hu; rcases hu with rfl | rfl | rfl | rfl <;> rfl
  case h63 => simp [maxLen]
  case hb => simp
  case hbase => simp <;> omega
  case next =>
    intro g8 c8 w88 hown hgrow hat hlt8
    have O8 : Hid (OwnM w4.heap.size w88 (.slice (some ⟨g8, 0, none⟩) 1 c8) [m]) := by
      unfold Hid OwnM
      exact hown
    have hb : Below w4.heap.size w4 w88 := (B0.out.alloc B0.out.size _).grown hgrow (by simp <;> omega) (fun q hq => by cases hq; exact Nat.le_refl _)
    clear hown hgrow hat e0 e1 e2 e3
    have H : Hid (Below w.heap.size w w88) := H.out.trans (hb.mono H.out.size)
    have RI := hide (RI.out.keep hb)
    have RM := hide (RM.out.keep hb)
    have V2 := hide (V2.out.keep hb)
    have OL : Hid (Moves w88 (.slice (some ⟨g8, 0, none⟩) 1 c8) (lastM ms)) := by rw [HLM.out]; exact O8.out.rows
    clear hb
    go_wp2_with fail
    refine (iDrainSide_any _ _ r3 (lastM ms) _ V2.out OL.out).mono ?_
    rintro e w5 ⟨v7, r7, rfl, hrel, ho, hb⟩
    have H : Hid (Below w.heap.size w w5) := H.out.trans (hb.mono H.out.size)
    have RI := hide (RI.out.keep hb)
    have RM := hide (RM.out.keep hb)
    have V2 := hide (V2.out.keep hb)
    have OL := hide (OL.out.keep hb)
    have CK7 := hide hrel
    have V7 := hide ho.itms
    obtain ⟨a7, c7, rfl, -⟩ := own_slc ho
    clear hrel hb ho
    have hu := DrnOf.twice CK2.out HNE.out HL30.out CK7.out
    subst hu
    obtain ⟨oa, oc, hoe, hol, hoc, hod⟩ := V2.out
    injection hoe with hoe1 hoe2 hoe3
    subst hoe1 hoe3
    clear hoe2
    go_wp2_with fail
    go_loopg [8] (r7.length - 1) (fun gq s8 wq => Below w5.heap.size w5 wq ∧ ∃ j : Nat, j + gq = r7.length - 1 ∧ s8 = .int .i64 ((j + 1 : Nat) : Int))
    case atStart => exact ⟨Below.refl _ _, 0, by omega, by go_num⟩
    case round =>
      obtain ⟨hbq, j, hj, rfl⟩ := hrel
      have HQ := hide hbq
      by_cases hlj : j + 1 < r7.length
      · obtain ⟨b2, off2, hbe2, hbb2, hcell2⟩ := hod.resolve_left (by rintro rfl; simp at hlj)
        subst hbe2
        have hbl2 := Nat.lt_of_lt_of_le hbb2 hbq.size
        have E1 := hide ((hcell2 (j + 1) hlj).keep hbq)
        have E2 := hide ((hcell2 j (by omega)).keep hbq)
        have HNX := hide (show lessP r7[j] r7[j + 1] from List.pairwise_iff_getElem.1 HSRT.out j (j + 1) (by omega) hlj (by omega))
        clear hcell2 hod hbq
        generalize r7[j + 1] = x1 at *
        generalize r7[j] = x2 at *
        have hnx := HNX.out
        simp only [lessP, lessI, decide_eq_true_eq] at hnx
        have dq : decide (x1.k < x2.k) = false := decide_eq_false (by omega)
        have g0 := fun z : BW wr => bw_cell (p := ⟨b2, off2 + (j + 1) * 2, none⟩) hbl2 E1.out.1 z
        have g1 := fun z : BW wr => bw_cell (p := ⟨b2, off2 + (j + 1) * 2 + 1, none⟩) hbl2 E1.out.2 z
        have g2 := fun z : BW wr => bw_cell (p := ⟨b2, off2 + j * 2, none⟩) hbl2 E2.out.1 z
        have g3 := fun z : BW wr => bw_cell (p := ⟨b2, off2 + j * 2 + 1, none⟩) hbl2 E2.out.2 z
        by_cases hke : x1.k = x2.k
        · have dke : (x1.k == x2.k) = true := by simpa using hke
          have dle : decide (x1.r ≤ x2.r) = false := decide_eq_false (by omega)
          clear hke hnx
          go_wp2_with fail
          refine wp_region_bw (by kernel_rfl) (by kernel_rfl) ?_
          repeat (go_big_quiet_step (fail))
          refine wpQuiet_nil ?_
          rintro _ ⟨z, rfl⟩
          have H1 : Hid (Below w5.heap.size w5 z.v) := HQ.out.trans (z.h.mono HQ.out.size)
          clear g0 g1 g2 g3
          go_wp2_with fail
          go_roundg (gk - 1)
          case measure => omega
          case rel => exact ⟨H1.out, j + 1, by omega, by go_num⟩
        · have dke : (x1.k == x2.k) = false := by simpa using hke
          clear hke hnx
          go_wp2_with fail
          refine wp_region_bw (by kernel_rfl) (by kernel_rfl) ?_
          repeat (go_big_quiet_step (fail))
          refine wpQuiet_nil ?_
          rintro _ ⟨z, rfl⟩
          have H1 : Hid (Below w5.heap.size w5 z.v) := HQ.out.trans (z.h.mono HQ.out.size)
          clear g0 g1 g2 g3
          go_wp2_with fail
          go_roundg (gk - 1)
          case measure => omega
          case rel => exact ⟨H1.out, j + 1, by omega, by go_num⟩
      · have hb := hbq
        have H : Hid (Below w.heap.size w wr) := H.out.trans (hb.mono H.out.size)
        have RI := hide (RI.out.keep hb)
        have RM := hide (RM.out.keep hb)
        have V2 := hide (V2.out.keep hb)
        have OL := hide (OL.out.keep hb)
        have V7 := hide (V7.out.keep hb)
        clear hb hbq hod
        go_wp2_with fail
        refine (equalItems_same _ _ r7 _ V7.out V2.out).mono ?_
        rintro e w6 ⟨rfl, hb⟩
        have H : Hid (Below w.heap.size w w6) := H.out.trans (hb.mono H.out.size)
        have RI := hide (RI.out.keep hb)
        have RM := hide (RM.out.keep hb)
        have V2 := hide (V2.out.keep hb)
        have OL := hide (OL.out.keep hb)
        have V7 := hide (V7.out.keep hb)
        clear hb
        go_wp2_with fail
        go_ret
        exact ⟨rfl, H.out⟩
end Go.Proofs.Ytppbmhlmbepneaa
