/-
  The walk of FnRowsAfterLast.
-/
import Derived.Test.YtppbmhlmbepneaaWkBase
set_option linter.all false
namespace Go.Proofs.Ytppbmhlmbepneaa
open Go.RowKit
set_option maxHeartbeats 16000000 in
set_option maxRecDepth 100000 in
theorem fnRowsAfterLast_walk (v : Value) (w : World) (h : BytesAt w v) :
    Calls Try.prog 5 #[v] w fun e w' => e = .returned (.bool true) ∧ Below w.heap.size w w' := by
  have hB := hide h
  obtain ⟨a, len, cap0, rfl, hlc, hcap0, hr⟩ := h
  clear hr
  obtain ⟨i0, hi, hz0, hz1, hz2⟩ := info_parts infoMove
  by_cases hlen : 1048576 < len
  · go_enter Try.func5, Try.ntmps5
    go_wp2_with fail
    go_ret
    exact ⟨rfl, Below.refl _ _⟩
  go_enter Try.func5, Try.ntmps5
  go_wp2_with fail
  refine (drawRowsAfter_any _ _ hB.out).mono ?_
  rintro e w1 ⟨vr, l, vm, ms, rfl, hoi, hom, hl9, hm17, hb⟩
  have H := hide hb
  have RI := hide hoi.itms
  have RM := hide hom.rows
  have NL := hide (nilOk_own hoi)
  have OM := hide hom
  obtain ⟨ra0, rc0, rfl, -⟩ := own_slc hoi
  obtain ⟨ma0, mc0, rfl, -⟩ := own_slc hom
  clear hb hoi hom hB hlen hlc hcap0
  go_wp2_with fail
  refine (iRowsAfter_any _ _ l ms _ RI.out RM.out).mono ?_
  rintro e w2 ⟨v2, r2, rfl, hrel, ho, hb⟩
  have H : Hid (Below w.heap.size w w2) := H.out.trans (hb.mono H.out.size)
  have RI := hide (RI.out.keep hb)
  have RM := hide (RM.out.keep hb)
  have CK2 := hide hrel
  have V2 := hide ho.itms
  obtain ⟨a2, c2, rfl, -⟩ := own_slc ho
  clear hrel hb ho
  go_wp2_with fail
  refine (sRowsAfter_any _ _ l ms _ RI.out NL.out RM.out).mono ?_
  rintro e w3 ⟨v3, r3, rfl, hrel, ho, hb⟩
  have H : Hid (Below w.heap.size w w3) := H.out.trans (hb.mono H.out.size)
  have RI := hide (RI.out.keep hb)
  have RM := hide (RM.out.keep hb)
  have V2 := hide (V2.out.keep hb)
  have CK3 := hide hrel
  have V3 := hide ho.itms
  obtain ⟨a3, c3, rfl, -⟩ := own_slc ho
  clear hrel hb ho
  have hu := AftOf.uniq CK3.out CK2.out
  subst hu
  go_wp2_with fail
  refine (equalItems_same _ _ r3 _ V2.out V3.out).mono ?_
  rintro e w4 ⟨rfl, hb⟩
  have H : Hid (Below w.heap.size w w4) := H.out.trans (hb.mono H.out.size)
  have RI := hide (RI.out.keep hb)
  have RM := hide (RM.out.keep hb)
  have V2 := hide (V2.out.keep hb)
  have V3 := hide (V3.out.keep hb)
  clear hb
  clear V3
  by_cases hm0 : ms.length = 0
  · have dm : ((ms.length : Int) == 0) = true := by simp [hm0]
    have HM0 := hide hm0
    clear hm0
    go_wp2_with fail
    refine (sRowsAfter_any _ _ l ms _ RI.out NL.out RM.out).mono ?_
    rintro e w5 ⟨v5, r5, rfl, hrel, ho, hb⟩
    have H : Hid (Below w.heap.size w w5) := H.out.trans (hb.mono H.out.size)
    have RI := hide (RI.out.keep hb)
    have RM := hide (RM.out.keep hb)
    have V2 := hide (V2.out.keep hb)
    have CK5 := hide hrel
    have V5 := hide ho.itms
    obtain ⟨a5, c5, rfl, -⟩ := own_slc ho
    clear hrel hb ho
    have hu := AftOf.uniq CK5.out CK2.out
    subst hu
    go_wp2_with fail
    refine (equalItems_same _ _ r5 _ V2.out V5.out).mono ?_
    rintro e w6 ⟨rfl, hb⟩
    have H : Hid (Below w.heap.size w w6) := H.out.trans (hb.mono H.out.size)
    have RI := hide (RI.out.keep hb)
    have RM := hide (RM.out.keep hb)
    have V2 := hide (V2.out.keep hb)
    have V5 := hide (V5.out.keep hb)
    clear hb
    go_wp2_with fail
    go_ret
    exact ⟨rfl, H.out⟩
  have dm : ((ms.length : Int) == 0) = false := by simpa using hm0
  obtain ⟨m, hm⟩ : ∃ m, ms[ms.length - 1]'(by omega) = m := ⟨_, rfl⟩
  have HMM := hide hm
  obtain ⟨mb, moff, hma, hmb, EM⟩ : ∃ b off, ma0 = some ⟨b, off, none⟩ ∧ b < w4.heap.size ∧ MoveAt w4 b (off + (ms.length - 1) * 4) m := by
    obtain ⟨ua, uc, hue, hul, huc, hd⟩ := RM.out
    injection hue with hue1 hue2 hue3
    obtain ⟨b, off, hbe, hbb, hcell⟩ := hd.resolve_left (by rintro rfl; simp at hm0)
    exact ⟨b, off, hue1.trans hbe, hbb, hm ▸ hcell (ms.length - 1) (by omega)⟩
  subst hma
  obtain ⟨e0, e1, e2, e3⟩ := EM
  have hm1 : (ms.length : Int) - 1 = ((ms.length - 1 : Nat) : Int) := by omega
  have hm2 : ms.length - 1 < ms.length := by omega
  have HM0 := hide hm0
  have HLASTF := hide (fun (h : r3 ≠ []) (hs : m.scan = false) => CK2.out.last h HM0.out HMM.out hs)
  clear hm HMM hm0
  obtain ⟨sc, gn, row, key⟩ := m
  simp only at e0 e1 e2 e3
  cases sc with
  | true =>
    go_wp2_with fail
    refine (sRowsAfter_any _ _ l ms _ RI.out NL.out RM.out).mono ?_
    rintro e w5 ⟨v5, r5, rfl, hrel, ho, hb⟩
    have H : Hid (Below w.heap.size w w5) := H.out.trans (hb.mono H.out.size)
    have RI := hide (RI.out.keep hb)
    have RM := hide (RM.out.keep hb)
    have V2 := hide (V2.out.keep hb)
    have CK5 := hide hrel
    have V5 := hide ho.itms
    obtain ⟨a5, c5, rfl, -⟩ := own_slc ho
    clear hrel hb ho
    have hu := AftOf.uniq CK5.out CK2.out
    subst hu
    go_wp2_with fail
    refine (equalItems_same _ _ r5 _ V2.out V5.out).mono ?_
    rintro e w6 ⟨rfl, hb⟩
    have H : Hid (Below w.heap.size w w6) := H.out.trans (hb.mono H.out.size)
    have RI := hide (RI.out.keep hb)
    have RM := hide (RM.out.keep hb)
    have V2 := hide (V2.out.keep hb)
    have V5 := hide (V5.out.keep hb)
    clear hb
    go_wp2_with fail
    go_ret
    exact ⟨rfl, H.out⟩
  | false =>
    by_cases h0 : r3 = []
    · have dz : ((r3.length : Int) == 0) = true := by simp [h0]
      have HZ0 := hide h0
      clear h0
      go_wp2_with fail
      refine (sRowsAfter_any _ _ l ms _ RI.out NL.out RM.out).mono ?_
      rintro e w5 ⟨v5, r5, rfl, hrel, ho, hb⟩
      have H : Hid (Below w.heap.size w w5) := H.out.trans (hb.mono H.out.size)
      have RI := hide (RI.out.keep hb)
      have RM := hide (RM.out.keep hb)
      have V2 := hide (V2.out.keep hb)
      have CK5 := hide hrel
      have V5 := hide ho.itms
      obtain ⟨a5, c5, rfl, -⟩ := own_slc ho
      clear hrel hb ho
      have hu := AftOf.uniq CK5.out CK2.out
      subst hu
      go_wp2_with fail
      refine (equalItems_same _ _ r5 _ V2.out V5.out).mono ?_
      rintro e w6 ⟨rfl, hb⟩
      have H : Hid (Below w.heap.size w w6) := H.out.trans (hb.mono H.out.size)
      have RI := hide (RI.out.keep hb)
      have RM := hide (RM.out.keep hb)
      have V2 := hide (V2.out.keep hb)
      have V5 := hide (V5.out.keep hb)
      clear hb
      go_wp2_with fail
      go_ret
      exact ⟨rfl, H.out⟩
    have dz : ((r3.length : Int) == 0) = false := by simpa using h0
    have LAST := hide (HLASTF.out h0 rfl)
    have HNE := hide h0
    clear h0
    obtain ⟨oa, oc, hoe, hol, hoc, hod⟩ := V2.out
    injection hoe with hoe1 hoe2 hoe3
    subst hoe1 hoe3
    clear hoe2
    have HX0 := hide (blk_alloc w4 (.cells #[.bool false, .bool gn, .int .i64 row, .int .i64 key] 42))
    have HB0 := hide (below_box w4 (.cells #[.bool false, .bool gn, .int .i64 row, .int .i64 key] 42))
    go_wp2_with fail
    go_loopg [7, 8] r3.length (fun gk s7 s8 wr => Below w4.heap.size w4 wr ∧ wr.heap[w4.heap.size]? = some (.cells #[.bool false, .bool gn, .int .i64 row, .int .i64 key] 42 (0, 0)) ∧ ∃ i : Nat, i + gk = r3.length ∧ s8 = .int .i64 (i : Int) ∧ ∃ f : Bool, s7 = .bool f ∧ Hid (f = true ↔ ∃ j, ∃ h : j < r3.length, j < i ∧ r3[j].r = row))
    case atStart => exact ⟨HB0.out, HX0.out, 0, by omega, rfl, false, rfl, ⟨fun h => (by cases h), fun ⟨j, _, hj, _⟩ => by omega⟩⟩
    case round =>
      clear HX0 HB0 e0 e1 e2 e3
      obtain ⟨hbw, hbx, i, hk, rfl, f, rfl, hf⟩ := hrel
      have HW := hide hbw
      have HX := hide hbx
      obtain ⟨⟨m0, m1, m2, m3⟩, -⟩ := cells4 hbx
      clear hbx
      by_cases hlt : i < r3.length
      · obtain ⟨b, off, hbe, hbb, hcell⟩ := hod.resolve_left (by rintro rfl; simp at hlt)
        subst hbe
        obtain ⟨f0, f1⟩ := (hcell i hlt).keep hbw
        have HMEM := hide (LAST.out.1 _ (List.getElem_mem hlt))
        have HFT : Hid (r3[i].r = row → ((true = true) ↔ ∃ j, ∃ h : j < r3.length, j < i + 1 ∧ r3[j].r = row)) := fun h => ⟨fun _ => ⟨i, hlt, by omega, h⟩, fun _ => rfl⟩
        have HFF : Hid (¬ r3[i].r = row → ((f = true) ↔ ∃ j, ∃ h : j < r3.length, j < i + 1 ∧ r3[j].r = row)) := fun h => hf.out.trans ⟨fun ⟨j, h1, h2, h3⟩ => ⟨j, h1, by omega, h3⟩, fun ⟨j, h1, h2, h3⟩ => ⟨j, h1, by
          rcases Nat.lt_or_ge j i with q | q
          · exact q
          · obtain rfl : j = i := by omega
            exact absurd h3 h, h3⟩⟩
        clear hcell hod hbw
        generalize r3[i].r = xr at *
        generalize r3[i].k = xk at *
        by_cases hq : xr = row
        · have hq' : (xr == row) = true := by simpa using hq
          obtain ⟨hgn, hxk⟩ := HMEM.out hq
          have HFT1 := hide (HFT.out hq)
          subst hgn hxk hq
          have hkk : (xk != xk) = false := by simp
          go_wp2_with fail
          go_quiet (fail)
          go_wp2_with fail
          go_quiet (fail)
          go_wp2_with fail
          go_roundg (gk - 1)
          case measure => omega
          case rel => exact ⟨below_drewN HW.out _, HX.out, i + 1, by omega, by go_num, true, rfl, hide (by simpa using HFT1.out)⟩
        · have hq' : (xr == row) = false := by simpa using hq
          have HFF1 := hide (HFF.out hq)
          go_wp2_with fail
          go_quiet (fail)
          go_wp2_with fail
          go_roundg (gk - 1)
          case measure => omega
          case rel => exact ⟨below_drewN HW.out _, HX.out, i + 1, by omega, by go_num, f, rfl, HFF1⟩
      · have hil : i = r3.length := by omega
        subst hil
        have hfg : f = !gn := by
          cases gn with
          | false => exact hf.out.2 (by obtain ⟨j, hj, he⟩ := LAST.out.2 rfl; exact ⟨j, hj, hj, he⟩)
          | true =>
            cases f with
            | false => rfl
            | true =>
              obtain ⟨j, hj, -, he⟩ := hf.out.1 rfl
              have := (LAST.out.1 _ (List.getElem_mem hj) he).1
              cases this
        subst hfg
        clear hbw hod
        go_wp2_with fail
        go_ret
        refine ⟨ret_bool (by simp), H.out.trans (HW.out.mono H.out.size)⟩
end Go.Proofs.Ytppbmhlmbepneaa
