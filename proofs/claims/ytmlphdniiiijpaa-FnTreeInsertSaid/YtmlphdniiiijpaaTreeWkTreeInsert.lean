/-
  The walk of FnTreeInsert.
-/
import Derived.Test.YtmlphdniiiijpaaTreeP
set_option linter.all false
namespace Go.Proofs.Ytmlphdniiiijpaa
open Go.RowKit
set_option maxHeartbeats 16000000 in
set_option maxRecDepth 100000 in
theorem fnTreeInsert_walk (v : Value) (w : World) (h : BytesAt w v) :
    Calls Try.prog 9 #[v] w fun e w' => e = .returned (.bool true) ∧ Below w.heap.size w w' := by
  have hB := hide h
  obtain ⟨a, len, cap0, rfl, hlc, hcap0, hr⟩ := h
  clear hr
  by_cases hlen : 1048576 < len
  · go_enter Try.func9, Try.ntmps9
    go_wp2_with fail
    go_ret
    exact ⟨rfl, Below.refl _ _⟩
  go_enter Try.func9, Try.ntmps9
  go_wp2_with fail
  refine (drawTreeInsert_any _ _ hB.out).mono ?_
  rintro e w1 ⟨tv, t, x, rfl, hlv, htl, hfl, hb⟩
  obtain ⟨ta, tn, tc, rfl⟩ := lvs_any hlv
  obtain ⟨xk, xr⟩ := x
  simp only
  have H := hide hb
  have LT := hide hlv
  have hn : (flatT t).length ≤ 1048576 := by omega
  clear hlv hb hB hlen hlc hcap0
  have hb := below_box2 w1 (.cells #[.slice ta tn tc] 25) (.cells #[.int .i64 xk, .int .i64 xr] 38)
  have H := hide (H.out.trans (hb.mono H.out.size))
  have LT := hide (LT.out.keep hb)
  have B3 := hide (blk_keep (blk_alloc w1 (.cells #[.slice ta tn tc] 25)) (.cells #[.int .i64 xk, .int .i64 xr] 38))
  have B4 := hide (blk_at (b := w1.heap.size + 1) (by simp) (.cells #[.int .i64 xk, .int .i64 xr] 38) : ((w1.alloc (.cells #[.slice ta tn tc] 25)).alloc (.cells #[.int .i64 xk, .int .i64 xr] 38)).heap[w1.heap.size + 1]? = some (.cells #[.int .i64 xk, .int .i64 xr] 38))
  clear hb
  go_wp2_with fail
  generalize hWx : (w1.alloc (.cells #[.slice ta tn tc] 25)).alloc (.cells #[.int .i64 xk, .int .i64 xr] 38) = w2 at *
  generalize hgx4 : w1.heap.size + 1 = gB4 at *
  generalize hgx3 : w1.heap.size = gB3 at *
  clear hWx hgx3 hgx4
  have lB3 := lt_block B3.out
  have cB30 := cell_block B3.out 0
  have lB4 := lt_block B4.out
  have cB40 := cell_block B4.out 0
  have cB41 := cell_block B4.out 1
  refine (treeInsert_any _ t ⟨xk, xr⟩ _ LT.out hn).mono ?_
  rintro e w3 ⟨vB5, r0, b0, rfl, hch, hl, hb⟩
  have H := hide (H.out.trans (hb.mono H.out.size))
  have LT := hide (LT.out.keep hb)
  have B3 := hide (blk_own hb B3.out)
  have B4 := hide (blk_own hb B4.out)
  have CHB5 := hide hch
  obtain ⟨aB5, nB5, cB5, rfl⟩ := ownL_any hl
  have LU := hide hl.lvs
  clear hch hl hb
  have lB3 := lt_block B3.out
  have cB30 := cell_block B3.out 0
  have lB4 := lt_block B4.out
  have cB40 := cell_block B4.out 0
  have cB41 := cell_block B4.out 1
  have hb := below_box w3 (.cells #[.slice aB5 nB5 cB5] 25)
  have H := hide (H.out.trans (hb.mono H.out.size))
  have LT := hide (LT.out.keep hb)
  have LU := hide (LU.out.keep hb)
  have B3 := hide (blk_own hb B3.out)
  have B4 := hide (blk_own hb B4.out)
  have B5 := hide (blk_alloc w3 (.cells #[.slice aB5 nB5 cB5] 25))
  clear hb
  go_wp2_with fail
  generalize hWx : w3.alloc (.cells #[.slice aB5 nB5 cB5] 25) = w4 at *
  generalize hgx : w3.heap.size = gB5 at *
  clear hWx hgx
  have lB3 := lt_block B3.out
  have cB30 := cell_block B3.out 0
  have lB4 := lt_block B4.out
  have cB40 := cell_block B4.out 0
  have cB41 := cell_block B4.out 1
  have lB5 := lt_block B5.out
  have cB50 := cell_block B5.out 0
  refine (streeInsert_any _ t ⟨xk, xr⟩ _ LT.out hn).mono ?_
  rintro e w5 ⟨vB7, r, b, rfl, hch, hl, hb⟩
  have H := hide (H.out.trans (hb.mono H.out.size))
  have LT := hide (LT.out.keep hb)
  have LU := hide (LU.out.keep hb)
  have B3 := hide (blk_own hb B3.out)
  have B4 := hide (blk_own hb B4.out)
  have B5 := hide (blk_own hb B5.out)
  have CHB7 := hide hch
  obtain ⟨aB7, nB7, cB7, rfl⟩ := ownR_any hl
  have LW := hide hl.lvs
  clear hch hl hb
  have lB3 := lt_block B3.out
  have cB30 := cell_block B3.out 0
  have lB4 := lt_block B4.out
  have cB40 := cell_block B4.out 0
  have cB41 := cell_block B4.out 1
  have lB5 := lt_block B5.out
  have cB50 := cell_block B5.out 0
  have hb := below_box w5 (.cells #[.slice aB7 nB7 cB7] 25)
  have H := hide (H.out.trans (hb.mono H.out.size))
  have LT := hide (LT.out.keep hb)
  have LU := hide (LU.out.keep hb)
  have LW := hide (LW.out.keep hb)
  have B3 := hide (blk_own hb B3.out)
  have B4 := hide (blk_own hb B4.out)
  have B5 := hide (blk_own hb B5.out)
  have B7 := hide (blk_alloc w5 (.cells #[.slice aB7 nB7 cB7] 25))
  clear hb
  go_wp2_with fail
  generalize hWx : w5.alloc (.cells #[.slice aB7 nB7 cB7] 25) = w6 at *
  generalize hgx : w5.heap.size = gB7 at *
  clear hWx hgx
  have lB3 := lt_block B3.out
  have cB30 := cell_block B3.out 0
  have lB4 := lt_block B4.out
  have cB40 := cell_block B4.out 0
  have cB41 := cell_block B4.out 1
  have lB5 := lt_block B5.out
  have cB50 := cell_block B5.out 0
  have lB7 := lt_block B7.out
  have cB70 := cell_block B7.out 0
  obtain ⟨hu1, hu2⟩ := ChgOf.uniq CHB5.out CHB7.out
  subst hu1
  subst hu2
  clear CHB7
  cases b with
  | false =>
    go_wp2_with fail
    refine (equalTree_same _ _ r _ LU.out LW.out).mono ?_
    rintro e w7 ⟨rfl, hb⟩
    have H := hide (H.out.trans (hb.mono H.out.size))
    have LT := hide (LT.out.keep hb)
    have LU := hide (LU.out.keep hb)
    have LW := hide (LW.out.keep hb)
    have B3 := hide (blk_own hb B3.out)
    have B4 := hide (blk_own hb B4.out)
    have B5 := hide (blk_own hb B5.out)
    have B7 := hide (blk_own hb B7.out)
    clear hb
    have lB3 := lt_block B3.out
    have cB30 := cell_block B3.out 0
    have lB4 := lt_block B4.out
    have cB40 := cell_block B4.out 0
    have cB41 := cell_block B4.out 1
    have lB5 := lt_block B5.out
    have cB50 := cell_block B5.out 0
    have lB7 := lt_block B7.out
    have cB70 := cell_block B7.out 0
    go_wp2_with fail
    refine (equalTree_same _ _ r _ LU.out LW.out).mono ?_
    rintro e w8 ⟨rfl, hb⟩
    have H := hide (H.out.trans (hb.mono H.out.size))
    have LT := hide (LT.out.keep hb)
    have LU := hide (LU.out.keep hb)
    have LW := hide (LW.out.keep hb)
    have B3 := hide (blk_own hb B3.out)
    have B4 := hide (blk_own hb B4.out)
    have B5 := hide (blk_own hb B5.out)
    have B7 := hide (blk_own hb B7.out)
    clear hb
    have lB3 := lt_block B3.out
    have cB30 := cell_block B3.out 0
    have lB4 := lt_block B4.out
    have cB40 := cell_block B4.out 0
    have cB41 := cell_block B4.out 1
    have lB5 := lt_block B5.out
    have cB50 := cell_block B5.out 0
    have lB7 := lt_block B7.out
    have cB70 := cell_block B7.out 0
    go_wp2_with fail
    go_ret
    exact ⟨rfl, H.out⟩
  | true =>
    have D := hide (insD CHB5.out)
    have hr30 := D.out.vr.n
    have hnr : (flatT r).length ≤ 1048576 := by omega
    have ht30 := D.out.vt.n
    go_wp2_with fail
    refine (equalTree_same _ _ r _ LU.out LW.out).mono ?_
    rintro e w9 ⟨rfl, hb⟩
    have H := hide (H.out.trans (hb.mono H.out.size))
    have LT := hide (LT.out.keep hb)
    have LU := hide (LU.out.keep hb)
    have LW := hide (LW.out.keep hb)
    have B3 := hide (blk_own hb B3.out)
    have B4 := hide (blk_own hb B4.out)
    have B5 := hide (blk_own hb B5.out)
    have B7 := hide (blk_own hb B7.out)
    clear hb
    have lB3 := lt_block B3.out
    have cB30 := cell_block B3.out 0
    have lB4 := lt_block B4.out
    have cB40 := cell_block B4.out 0
    have cB41 := cell_block B4.out 1
    have lB5 := lt_block B5.out
    have cB50 := cell_block B5.out 0
    have lB7 := lt_block B7.out
    have cB70 := cell_block B7.out 0
    clear LW
    clear lB7 cB70
    clear B7
    go_wp2_with fail
    refine (treeItems_any _ t _ LT.out hn).mono ?_
    rintro e w10 ⟨vl9, l9, rfl, hti, ho, hb⟩
    have H := hide (H.out.trans (hb.mono H.out.size))
    have LT := hide (LT.out.keep hb)
    have LU := hide (LU.out.keep hb)
    have B3 := hide (blk_own hb B3.out)
    have B4 := hide (blk_own hb B4.out)
    have B5 := hide (blk_own hb B5.out)
    have El9 : Hid (l9 = flatT t) := hti.of D.out.vt
    have V9 := hide ho.itms
    obtain ⟨al9, cl9, rfl, -⟩ := own_slc ho
    clear hti ho hb
    have lB3 := lt_block B3.out
    have cB30 := cell_block B3.out 0
    have lB4 := lt_block B4.out
    have cB40 := cell_block B4.out 0
    have cB41 := cell_block B4.out 1
    have lB5 := lt_block B5.out
    have cB50 := cell_block B5.out 0
    go_wp2_with fail
    refine (treeItems_any _ r _ LU.out hnr).mono ?_
    rintro e w11 ⟨vl10, l10, rfl, hti, ho, hb⟩
    have H := hide (H.out.trans (hb.mono H.out.size))
    have LT := hide (LT.out.keep hb)
    have LU := hide (LU.out.keep hb)
    have V9 := hide (V9.out.keep hb)
    have B3 := hide (blk_own hb B3.out)
    have B4 := hide (blk_own hb B4.out)
    have B5 := hide (blk_own hb B5.out)
    have El10 : Hid (l10 = flatT r) := hti.of D.out.vr
    have V10 := hide ho.itms
    obtain ⟨al10, cl10, rfl, -⟩ := own_slc ho
    clear hti ho hb
    have lB3 := lt_block B3.out
    have cB30 := cell_block B3.out 0
    have lB4 := lt_block B4.out
    have cB40 := cell_block B4.out 0
    have cB41 := cell_block B4.out 1
    have lB5 := lt_block B5.out
    have cB50 := cell_block B5.out 0
    have HSUB : Hid (∀ y ∈ l9, hasI l10 y = true) := by rw [El9.out, El10.out]; exact D.out.sub
    have HHX : Hid (hasI l10 ⟨xk, xr⟩ = true) := by rw [El10.out]; exact D.out.ha
    have HNX : Hid (hasI l9 ⟨xk, xr⟩ = false) := by rw [El9.out]; exact D.out.no
    have hl9 : l9.length ≤ 30 := by rw [El9.out]; exact ht30
    have HLN : Hid (l10.length = l9.length + 1) := by rw [El9.out, El10.out]; exact D.out.ln
    have dl : ((l10.length : Int) == (l9.length : Int) + 1) = true := by simp only [beq_iff_eq]; have := HLN.out; omega
    clear LT
    clear lB3 cB30
    clear B3
    have HV := hide V9.out
    obtain ⟨oa, oc, hoe, hol, hoc, hod⟩ := V9.out
    injection hoe with hoe1 hoe2 hoe3
    subst hoe1 hoe3
    clear hoe2
    go_wp2_with fail
    go_loopg [11] l9.length (fun gk s11 wr => Below w11.heap.size w11 wr ∧ ∃ k : Nat, k + gk = l9.length ∧ s11 = .int .i64 (k : Int))
    case atStart => exact ⟨Below.refl _ _, 0, by omega, rfl⟩
    case round =>
      obtain ⟨hbw, k, hk, rfl⟩ := hrel
      have HW := hide hbw
      by_cases hlt : k < l9.length
      · obtain ⟨bo, off, rfl, hbb, hcell⟩ := hod.resolve_left (by rintro rfl; simp at hlt)
        obtain ⟨e0, e1⟩ := (hcell k hlt).keep hbw
        have HH := hide (HSUB.out _ (List.getElem_mem hlt))
        have VV := hide (V10.out.keep hbw)
        clear hcell hod hbw
        generalize l9[k] = y at *
        go_wp2_with fail
        refine (lholds_is _ l10 y _ VV.out HH.out).mono ?_
        rintro e w9 ⟨rfl, hb⟩
        have H9 := hide (HW.out.trans (hb.mono HW.out.size))
        clear hb
        go_wp2_with fail
        go_roundg (gk - 1)
        case measure => omega
        case rel => exact ⟨H9.out, k + 1, by omega, by go_num⟩
      · have hkl : k = l9.length := by omega
        subst hkl
        have hb := hbw
        have H := hide (H.out.trans (hb.mono H.out.size))
        have LU := hide (LU.out.keep hb)
        have V9 := hide (V9.out.keep hb)
        have V10 := hide (V10.out.keep hb)
        have B4 := hide (blk_own hb B4.out)
        have B5 := hide (blk_own hb B5.out)
        clear hb hbw HW hod HV
        have lB4 := lt_block B4.out
        have cB40 := cell_block B4.out 0
        have cB41 := cell_block B4.out 1
        have lB5 := lt_block B5.out
        have cB50 := cell_block B5.out 0
        go_wp2_with fail
        refine (validTree_any _ r _ LU.out hnr).mono ?_
        rintro e w12 ⟨q, rfl, hq, hb⟩
        have H := hide (H.out.trans (hb.mono H.out.size))
        have LU := hide (LU.out.keep hb)
        have V9 := hide (V9.out.keep hb)
        have V10 := hide (V10.out.keep hb)
        have B4 := hide (blk_own hb B4.out)
        have B5 := hide (blk_own hb B5.out)
        obtain rfl : q = true := hq.2 D.out.vr
        clear hq hb
        have lB4 := lt_block B4.out
        have cB40 := cell_block B4.out 0
        have cB41 := cell_block B4.out 1
        have lB5 := lt_block B5.out
        have cB50 := cell_block B5.out 0
        go_wp2_with fail
        refine (lholds_is _ l10 ⟨xk, xr⟩ _ V10.out HHX.out).mono ?_
        rintro e w13 ⟨rfl, hb⟩
        have H := hide (H.out.trans (hb.mono H.out.size))
        have LU := hide (LU.out.keep hb)
        have V9 := hide (V9.out.keep hb)
        have V10 := hide (V10.out.keep hb)
        have B4 := hide (blk_own hb B4.out)
        have B5 := hide (blk_own hb B5.out)
        clear hb
        have lB4 := lt_block B4.out
        have cB40 := cell_block B4.out 0
        have cB41 := cell_block B4.out 1
        have lB5 := lt_block B5.out
        have cB50 := cell_block B5.out 0
        go_wp2_with fail
        refine (lholds_is _ l9 ⟨xk, xr⟩ _ V9.out HNX.out).mono ?_
        rintro e w14 ⟨rfl, hb⟩
        have H := hide (H.out.trans (hb.mono H.out.size))
        have LU := hide (LU.out.keep hb)
        have V9 := hide (V9.out.keep hb)
        have V10 := hide (V10.out.keep hb)
        have B4 := hide (blk_own hb B4.out)
        have B5 := hide (blk_own hb B5.out)
        clear hb
        have lB4 := lt_block B4.out
        have cB40 := cell_block B4.out 0
        have cB41 := cell_block B4.out 1
        have lB5 := lt_block B5.out
        have cB50 := cell_block B5.out 0
        go_wp2_with fail
        go_ret
        exact ⟨rfl, H.out⟩
end Go.Proofs.Ytmlphdniiiijpaa
