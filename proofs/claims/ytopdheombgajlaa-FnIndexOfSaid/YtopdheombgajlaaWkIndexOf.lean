/-
  The walk of FnIndexOf.
-/
import Derived.Test.YtopdheombgajlaaHoldsL
set_option linter.all false
namespace Go.Proofs.Ytopdheombgajlaa
open Go.RowKit
set_option maxHeartbeats 16000000 in
set_option maxRecDepth 100000 in
theorem fnIndexOf_walk (v : Value) (w : World) (h : BytesAt w v) :
    Calls Try.prog 3 #[v] w fun e w' => e = .returned (.bool true) ∧ Below w.heap.size w w' := by
  have hB := hide h
  obtain ⟨a, len, cap0, rfl, hlc, hcap0, hr⟩ := h
  clear hr
  by_cases hlen : 1048576 < len
  · go_enter Try.func3, Try.ntmps3
    go_wp2_with fail
    go_ret
    exact ⟨rfl, Below.refl _ _⟩
  go_enter Try.func3, Try.ntmps3
  go_wp2_with fail
  refine (drawIndexOf_any _ _ hB.out).mono ?_
  rintro e w1 ⟨lv, l, rfl, ho, hll, hb⟩
  have H := hide hb
  have V3 := hide ho.itms
  obtain ⟨la, lc, rfl, -⟩ := own_slc ho
  clear ho hb hB hlen hlc hcap0
  go_wp2_with fail
  refine (iIndexOf_any _ l _ V3.out).mono ?_
  rintro e w2 ⟨v4, r, rfl, hix, ho, hb⟩
  have H := hide (H.out.trans (hb.mono H.out.size))
  have V3 := hide (V3.out.keep hb)
  have IX := hide hix
  have V4 := hide ho.itms
  obtain ⟨ra, rc, rfl, -⟩ := own_slc ho
  clear hix ho hb
  go_wp2_with fail
  refine (sIndexOf_any _ l _ V3.out).mono ?_
  rintro e w3 ⟨v5, r', rfl, hix, ho, hb⟩
  have H := hide (H.out.trans (hb.mono H.out.size))
  have V3 := hide (V3.out.keep hb)
  have V4 := hide (V4.out.keep hb)
  have e5 : r = r' := IX.out.uniq hix
  subst e5
  have V5 := hide ho.itms
  obtain ⟨sa, sc, rfl, -⟩ := own_slc ho
  clear hix ho hb
  go_wp2_with fail
  refine (equalItems_same _ _ r _ V4.out V5.out).mono ?_
  rintro e w4 ⟨rfl, hb⟩
  have H := hide (H.out.trans (hb.mono H.out.size))
  have V3 := hide (V3.out.keep hb)
  have V4 := hide (V4.out.keep hb)
  clear hb V5
  by_cases h0 : r = []
  · have dz : ((r.length : Int) == 0) = true := by simp [h0]
    have HZ0 := hide h0
    clear h0
    go_wp2_with fail
    refine (sIndexOf_any _ l _ V3.out).mono ?_
    rintro e w5 ⟨v5, r', rfl, hix, ho, hb⟩
    have H := hide (H.out.trans (hb.mono H.out.size))
    have V3 := hide (V3.out.keep hb)
    have V4 := hide (V4.out.keep hb)
    have e5 : r = r' := IX.out.uniq hix
    subst e5
    have V5 := hide ho.itms
    obtain ⟨sa, sc, rfl, -⟩ := own_slc ho
    clear hix ho hb
    go_wp2_with fail
    refine (equalItems_same _ _ r _ V4.out V5.out).mono ?_
    rintro e w6 ⟨rfl, hb⟩
    have H := hide (H.out.trans (hb.mono H.out.size))
    have V3 := hide (V3.out.keep hb)
    have V4 := hide (V4.out.keep hb)
    clear hb V5
    go_wp2_with fail
    go_ret
    exact ⟨rfl, H.out⟩
  have dz : ((r.length : Int) == 0) = false := by simpa using h0
  have D := hide (idxD IX.out h0)
  clear h0
  have HSUB : Hid (∀ y ∈ l, hasI r y = true) := D.out.sub
  have hr30 := D.out.ok.2
  have HLN : Hid (r.length = l.length) := D.out.ln
  have HV := hide V3.out
  obtain ⟨oa, oc, hoe, hol, hoc, hod⟩ := V3.out
  injection hoe with hoe1 hoe2 hoe3
  subst hoe1 hoe3
  clear hoe2
  go_wp2_with fail
  go_loopg [5] l.length (fun gk s11 wr => Below w4.heap.size w4 wr ∧ ∃ k : Nat, k + gk = l.length ∧ s11 = .int .i64 (k : Int))
  case atStart => exact ⟨Below.refl _ _, 0, by omega, rfl⟩
  case round =>
    obtain ⟨hbw, k, hk, rfl⟩ := hrel
    have HW := hide hbw
    by_cases hlt : k < l.length
    · obtain ⟨bo, off, rfl, hbb, hcell⟩ := hod.resolve_left (by rintro rfl; simp at hlt)
      obtain ⟨e0, e1⟩ := (hcell k hlt).keep hbw
      have HH := hide (HSUB.out _ (List.getElem_mem hlt))
      have VV := hide (V4.out.keep hbw)
      clear hcell hod hbw
      generalize l[k] = y at *
      go_wp2_with fail
      refine (lholds_is _ r y _ VV.out HH.out).mono ?_
      rintro e w9 ⟨rfl, hb⟩
      have H9 := hide (HW.out.trans (hb.mono HW.out.size))
      clear hb
      go_wp2_with fail
      go_roundg (gk - 1)
      case measure => omega
      case rel => exact ⟨H9.out, k + 1, by omega, by go_num⟩
    · have hkl : k = l.length := by omega
      subst hkl
      have hb := hbw
      have H := hide (H.out.trans (hb.mono H.out.size))
      have V3 := hide (V3.out.keep hb)
      have V4 := hide (V4.out.keep hb)
      clear hb hbw HW hod HV
      go_wp2_with fail
      refine (treeLoad_any _ r _ V4.out D.out.ok.1 D.out.ok.2).mono ?_
      rintro e w7 ⟨vB6, rfl, hl, hb⟩
      have H := hide (H.out.trans (hb.mono H.out.size))
      have V3 := hide (V3.out.keep hb)
      have V4 := hide (V4.out.keep hb)
      obtain ⟨aB6, nB6, cB6, rfl⟩ := ownL_any hl
      have LU := hide hl.lvs
      obtain ⟨hvu, hfu⟩ := idx_load D.out.ok
      have HVU := hide hvu
      have HFU := hide hfu
      have hnu : (flatT (loadT r)).length ≤ 1048576 := by have := hvu.n; omega
      obtain ⟨u, hu⟩ : ∃ u, loadT r = u := ⟨_, rfl⟩
      rw [hu] at LU HVU HFU hnu
      have dl : ((r.length : Int) == (l.length : Int)) = true := by simp only [beq_iff_eq]; have := HLN.out; omega
      clear hvu hfu hl hb hu
      have hb := below_box w7 (.cells #[.slice aB6 nB6 cB6] 32)
      have H := hide (H.out.trans (hb.mono H.out.size))
      have V3 := hide (V3.out.keep hb)
      have V4 := hide (V4.out.keep hb)
      have LU := hide (LU.out.keep hb)
      have B6 := hide (blk_alloc w7 (.cells #[.slice aB6 nB6 cB6] 32))
      clear hb
      go_wp2_with fail
      generalize hWx : w7.alloc (.cells #[.slice aB6 nB6 cB6] 32) = w8 at *
      generalize hgx : w7.heap.size = gB6 at *
      clear hWx hgx
      have lB6 := lt_block B6.out
      have cB60 := cell_block B6.out 0
      refine (treeItems_any _ u _ LU.out hnu).mono ?_
      rintro e w9 ⟨v9, l9, rfl, hti, ho, hb⟩
      have H := hide (H.out.trans (hb.mono H.out.size))
      have V3 := hide (V3.out.keep hb)
      have V4 := hide (V4.out.keep hb)
      have LU := hide (LU.out.keep hb)
      have B6 := hide (blk_own hb B6.out)
      have e9 : r = l9 := ((hti.1 HVU.out).trans HFU.out).symm
      subst e9
      have V9 := hide ho.itms
      obtain ⟨na, nc, rfl, -⟩ := own_slc ho
      clear hti ho hb
      have lB6 := lt_block B6.out
      have cB60 := cell_block B6.out 0
      go_wp2_with fail
      refine (equalItems_same _ _ r _ V9.out V4.out).mono ?_
      rintro e w10 ⟨rfl, hb⟩
      have H := hide (H.out.trans (hb.mono H.out.size))
      clear hb
      go_wp2_with fail
      go_ret
      exact ⟨rfl, H.out⟩
end Go.Proofs.Ytopdheombgajlaa
