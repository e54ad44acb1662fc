/-
  The walk of FnTreeInsertBack.
-/
import Derived.Test.YtmlphdniiiijpaaTreeP
set_option linter.all false
namespace Go.Proofs.Ytmlphdniiiijpaa
open Go.RowKit
set_option maxHeartbeats 16000000 in
set_option maxRecDepth 100000 in
theorem fnTreeInsertBack_walk (v : Value) (w : World) (h : BytesAt w v) :
    Calls Try.prog 12 #[v] w fun e w' => e = .returned (.bool true) ∧ Below w.heap.size w w' := by
  have hB := hide h
  obtain ⟨a, len, cap0, rfl, hlc, hcap0, hr⟩ := h
  clear hr
  by_cases hlen : 1048576 < len
  · go_enter Try.func12, Try.ntmps12
    go_wp2_with fail
    go_ret
    exact ⟨rfl, Below.refl _ _⟩
  go_enter Try.func12, Try.ntmps12
  go_wp2_with fail
  refine (drawTreeInsert_any _ _ hB.out).mono ?_
  rintro e w1 ⟨tv, t, x, rfl, hlv, htl, hfl, hb⟩
  obtain ⟨ta, tn, tc, rfl⟩ := lvs_any hlv
  obtain ⟨xk, xr⟩ := x
  simp only
  have H := hide hb
  have LT := hide hlv
  have hn : (flatT t).length ≤ 1048576 := by omega
  clear hlv hb hB hlen hlc hcap0
  have hb := below_box2 w1 (.cells #[.slice ta tn tc] 25) (.cells #[.int .i64 xk, .int .i64 xr] 38)
  have H := hide (H.out.trans (hb.mono H.out.size))
  have LT := hide (LT.out.keep hb)
  have B3 := hide (blk_keep (blk_alloc w1 (.cells #[.slice ta tn tc] 25)) (.cells #[.int .i64 xk, .int .i64 xr] 38))
  have B4 := hide (blk_at (b := w1.heap.size + 1) (by simp) (.cells #[.int .i64 xk, .int .i64 xr] 38) : ((w1.alloc (.cells #[.slice ta tn tc] 25)).alloc (.cells #[.int .i64 xk, .int .i64 xr] 38)).heap[w1.heap.size + 1]? = some (.cells #[.int .i64 xk, .int .i64 xr] 38))
  clear hb
  go_wp2_with fail
  generalize hWx : (w1.alloc (.cells #[.slice ta tn tc] 25)).alloc (.cells #[.int .i64 xk, .int .i64 xr] 38) = w2 at *
  generalize hgx4 : w1.heap.size + 1 = gB4 at *
  generalize hgx3 : w1.heap.size = gB3 at *
  clear hWx hgx3 hgx4
  have lB3 := lt_block B3.out
  have cB30 := cell_block B3.out 0
  have lB4 := lt_block B4.out
  have cB40 := cell_block B4.out 0
  have cB41 := cell_block B4.out 1
  refine (treeInsert_any _ t ⟨xk, xr⟩ _ LT.out hn).mono ?_
  rintro e w3 ⟨vB5, r0, b0, rfl, hch, hl, hb⟩
  have H := hide (H.out.trans (hb.mono H.out.size))
  have LT := hide (LT.out.keep hb)
  have B3 := hide (blk_own hb B3.out)
  have B4 := hide (blk_own hb B4.out)
  have CHB5 := hide hch
  obtain ⟨aB5, nB5, cB5, rfl⟩ := ownL_any hl
  have LU := hide hl.lvs
  clear hch hl hb
  have lB3 := lt_block B3.out
  have cB30 := cell_block B3.out 0
  have lB4 := lt_block B4.out
  have cB40 := cell_block B4.out 0
  have cB41 := cell_block B4.out 1
  have hb := below_box w3 (.cells #[.slice aB5 nB5 cB5] 25)
  have H := hide (H.out.trans (hb.mono H.out.size))
  have LT := hide (LT.out.keep hb)
  have LU := hide (LU.out.keep hb)
  have B3 := hide (blk_own hb B3.out)
  have B4 := hide (blk_own hb B4.out)
  have B5 := hide (blk_alloc w3 (.cells #[.slice aB5 nB5 cB5] 25))
  clear hb
  go_wp2_with fail
  generalize hWx : w3.alloc (.cells #[.slice aB5 nB5 cB5] 25) = w4 at *
  generalize hgx : w3.heap.size = gB5 at *
  clear hWx hgx
  have lB3 := lt_block B3.out
  have cB30 := cell_block B3.out 0
  have lB4 := lt_block B4.out
  have cB40 := cell_block B4.out 0
  have cB41 := cell_block B4.out 1
  have lB5 := lt_block B5.out
  have cB50 := cell_block B5.out 0
  refine (streeInsert_any _ t ⟨xk, xr⟩ _ LT.out hn).mono ?_
  rintro e w5 ⟨vB7, r, b, rfl, hch, hl, hb⟩
  have H := hide (H.out.trans (hb.mono H.out.size))
  have LT := hide (LT.out.keep hb)
  have LU := hide (LU.out.keep hb)
  have B3 := hide (blk_own hb B3.out)
  have B4 := hide (blk_own hb B4.out)
  have B5 := hide (blk_own hb B5.out)
  have CHB7 := hide hch
  obtain ⟨aB7, nB7, cB7, rfl⟩ := ownR_any hl
  have LW := hide hl.lvs
  clear hch hl hb
  have lB3 := lt_block B3.out
  have cB30 := cell_block B3.out 0
  have lB4 := lt_block B4.out
  have cB40 := cell_block B4.out 0
  have cB41 := cell_block B4.out 1
  have lB5 := lt_block B5.out
  have cB50 := cell_block B5.out 0
  have hb := below_box w5 (.cells #[.slice aB7 nB7 cB7] 25)
  have H := hide (H.out.trans (hb.mono H.out.size))
  have LT := hide (LT.out.keep hb)
  have LU := hide (LU.out.keep hb)
  have LW := hide (LW.out.keep hb)
  have B3 := hide (blk_own hb B3.out)
  have B4 := hide (blk_own hb B4.out)
  have B5 := hide (blk_own hb B5.out)
  have B7 := hide (blk_alloc w5 (.cells #[.slice aB7 nB7 cB7] 25))
  clear hb
  go_wp2_with fail
  generalize hWx : w5.alloc (.cells #[.slice aB7 nB7 cB7] 25) = w6 at *
  generalize hgx : w5.heap.size = gB7 at *
  clear hWx hgx
  have lB3 := lt_block B3.out
  have cB30 := cell_block B3.out 0
  have lB4 := lt_block B4.out
  have cB40 := cell_block B4.out 0
  have cB41 := cell_block B4.out 1
  have lB5 := lt_block B5.out
  have cB50 := cell_block B5.out 0
  have lB7 := lt_block B7.out
  have cB70 := cell_block B7.out 0
  obtain ⟨hu1, hu2⟩ := ChgOf.uniq CHB5.out CHB7.out
  subst hu1
  subst hu2
  clear CHB7
  cases b with
  | false =>
    go_wp2_with fail
    refine (equalTree_same _ _ r _ LU.out LW.out).mono ?_
    rintro e w7 ⟨rfl, hb⟩
    have H := hide (H.out.trans (hb.mono H.out.size))
    have LT := hide (LT.out.keep hb)
    have LU := hide (LU.out.keep hb)
    have LW := hide (LW.out.keep hb)
    have B3 := hide (blk_own hb B3.out)
    have B4 := hide (blk_own hb B4.out)
    have B5 := hide (blk_own hb B5.out)
    have B7 := hide (blk_own hb B7.out)
    clear hb
    have lB3 := lt_block B3.out
    have cB30 := cell_block B3.out 0
    have lB4 := lt_block B4.out
    have cB40 := cell_block B4.out 0
    have cB41 := cell_block B4.out 1
    have lB5 := lt_block B5.out
    have cB50 := cell_block B5.out 0
    have lB7 := lt_block B7.out
    have cB70 := cell_block B7.out 0
    go_wp2_with fail
    refine (equalTree_same _ _ r _ LU.out LW.out).mono ?_
    rintro e w8 ⟨rfl, hb⟩
    have H := hide (H.out.trans (hb.mono H.out.size))
    have LT := hide (LT.out.keep hb)
    have LU := hide (LU.out.keep hb)
    have LW := hide (LW.out.keep hb)
    have B3 := hide (blk_own hb B3.out)
    have B4 := hide (blk_own hb B4.out)
    have B5 := hide (blk_own hb B5.out)
    have B7 := hide (blk_own hb B7.out)
    clear hb
    have lB3 := lt_block B3.out
    have cB30 := cell_block B3.out 0
    have lB4 := lt_block B4.out
    have cB40 := cell_block B4.out 0
    have cB41 := cell_block B4.out 1
    have lB5 := lt_block B5.out
    have cB50 := cell_block B5.out 0
    have lB7 := lt_block B7.out
    have cB70 := cell_block B7.out 0
    go_wp2_with fail
    go_ret
    exact ⟨rfl, H.out⟩
  | true =>
    have D := hide (insD CHB5.out)
    have hr30 := D.out.vr.n
    have hnr : (flatT r).length ≤ 1048576 := by omega
    have ht30 := D.out.vt.n
    go_wp2_with fail
    refine (equalTree_same _ _ r _ LU.out LW.out).mono ?_
    rintro e w9 ⟨rfl, hb⟩
    have H := hide (H.out.trans (hb.mono H.out.size))
    have LT := hide (LT.out.keep hb)
    have LU := hide (LU.out.keep hb)
    have LW := hide (LW.out.keep hb)
    have B3 := hide (blk_own hb B3.out)
    have B4 := hide (blk_own hb B4.out)
    have B5 := hide (blk_own hb B5.out)
    have B7 := hide (blk_own hb B7.out)
    clear hb
    have lB3 := lt_block B3.out
    have cB30 := cell_block B3.out 0
    have lB4 := lt_block B4.out
    have cB40 := cell_block B4.out 0
    have cB41 := cell_block B4.out 1
    have lB5 := lt_block B5.out
    have cB50 := cell_block B5.out 0
    have lB7 := lt_block B7.out
    have cB70 := cell_block B7.out 0
    clear LW
    clear lB7 cB70
    clear B7
    go_wp2_with fail
    refine (treeDelete_any _ r ⟨xk, xr⟩ _ LU.out hnr).mono ?_
    rintro e w10 ⟨vB9, s, bb, rfl, hch, hl, hb⟩
    have H := hide (H.out.trans (hb.mono H.out.size))
    have LT := hide (LT.out.keep hb)
    have LU := hide (LU.out.keep hb)
    have B3 := hide (blk_own hb B3.out)
    have B4 := hide (blk_own hb B4.out)
    have B5 := hide (blk_own hb B5.out)
    have CHB9 := hide hch
    obtain ⟨aB9, nB9, cB9, rfl⟩ := ownL_any hl
    have LB := hide hl.lvs
    clear hch hl hb
    have lB3 := lt_block B3.out
    have cB30 := cell_block B3.out 0
    have lB4 := lt_block B4.out
    have cB40 := cell_block B4.out 0
    have cB41 := cell_block B4.out 1
    have lB5 := lt_block B5.out
    have cB50 := cell_block B5.out 0
    have hb := below_box w10 (.cells #[.slice aB9 nB9 cB9] 25)
    have H := hide (H.out.trans (hb.mono H.out.size))
    have LT := hide (LT.out.keep hb)
    have LU := hide (LU.out.keep hb)
    have LB := hide (LB.out.keep hb)
    have B3 := hide (blk_own hb B3.out)
    have B4 := hide (blk_own hb B4.out)
    have B5 := hide (blk_own hb B5.out)
    have B9 := hide (blk_alloc w10 (.cells #[.slice aB9 nB9 cB9] 25))
    clear hb
    go_wp2_with fail
    generalize hWx : w10.alloc (.cells #[.slice aB9 nB9 cB9] 25) = w11 at *
    generalize hgx : w10.heap.size = gB9 at *
    clear hWx hgx
    have lB3 := lt_block B3.out
    have cB30 := cell_block B3.out 0
    have lB4 := lt_block B4.out
    have cB40 := cell_block B4.out 0
    have cB41 := cell_block B4.out 1
    have lB5 := lt_block B5.out
    have cB50 := cell_block B5.out 0
    have lB9 := lt_block B9.out
    have cB90 := cell_block B9.out 0
    obtain ⟨hbb, hvs, hfs⟩ := ins_back D.out CHB9.out
    subst hbb
    have HVS := hide hvs
    have HFS := hide hfs
    have hs30 := hvs.n
    have hns : (flatT s).length ≤ 1048576 := by omega
    clear hvs hfs CHB9 CHB5
    clear LU
    clear lB5 cB50
    clear B5
    have HD0 : Hid (Below w11.heap.size w11 w11.drew) := (Below.refl _ _).drew
    have HS : Hid (∀ z, Below w11.heap.size w11 z → (z.cell? ⟨gB9, 0, none⟩ = some (.slice aB9 nB9 cB9) ∧ z.cell? ⟨gB3, 0, none⟩ = some (.slice ta tn tc))) := fun z hz => ⟨(hz.cell (p := ⟨gB9, 0, none⟩) (lt_block B9.out)).trans (cell_block B9.out 0), (hz.cell (p := ⟨gB3, 0, none⟩) (lt_block B3.out)).trans (cell_block B3.out 0)⟩
    go_wp2_with fail
    go_region_held3 (fun z => z.cell? ⟨gB9, 0, none⟩ = some (.slice aB9 nB9 cB9) ∧ z.cell? ⟨gB3, 0, none⟩ = some (.slice ta tn tc)) (first | exact HS.out _ (Below.refl _ _) | exact HS.out _ HD0.out | exact HS.out _ HQw12.out | exact HS.out _ HQw13.out | exact HS.out _ HQw14.out | exact HS.out _ HQw15.out) (first
      | (go_at_call 14; (with_reducible refine (validTree_any _ s _ (LB.out.keep HD0.out) hns).mono ?_); rintro e w12 ⟨q, rfl, hq, hb⟩; have HQw12 : Hid (Below w11.heap.size w11 w12) := HD0.out.trans (hb.mono HD0.out.size); obtain rfl : q = true := hq.2 HVS.out; clear hq; clear hb)
      | (go_at_call 17; (with_reducible refine (treeItems_any _ s _ (LB.out.keep HQw12.out) hns).mono ?_); rintro e w13 ⟨vx, lx, rfl, hti, ho, hb⟩; have HQw13 : Hid (Below w11.heap.size w11 w13) := HQw12.out.trans (hb.mono HQw12.out.size); have EX : Hid (lx = flatT t) := (hti.of HVS.out).trans HFS.out; have VX := hide ho.itms; obtain ⟨ax, cx, rfl, -⟩ := own_slc ho; clear hti ho; clear hb)
      | (go_at_call 17; (with_reducible refine (treeItems_any _ t _ (LT.out.keep HQw13.out) hn).mono ?_); rintro e w14 ⟨vy, ly, rfl, hti, ho, hb⟩; have HQw14 : Hid (Below w11.heap.size w11 w14) := HQw13.out.trans (hb.mono HQw13.out.size); have ey : lx = ly := EX.out.trans (hti.of D.out.vt).symm; subst ey; have VY := hide ho.itms; have VX := hide (VX.out.keep hb); obtain ⟨ay, cy, rfl, -⟩ := own_slc ho; clear hti ho; clear hb)
      | (go_at_call 20; (with_reducible refine (equalItems_same _ _ lx _ VX.out VY.out).mono ?_); rintro e w15 ⟨rfl, hb⟩; have HQw15 : Hid (Below w11.heap.size w11 w15) := HQw14.out.trans (hb.mono HQw14.out.size); clear hb))
    have hb := HQw15.out
    have H := hide (H.out.trans (hb.mono H.out.size))
    have LT := hide (LT.out.keep hb)
    have LB := hide (LB.out.keep hb)
    have B3 := hide (blk_own hb B3.out)
    have B4 := hide (blk_own hb B4.out)
    have B9 := hide (blk_own hb B9.out)
    clear hb HS
    have lB3 := lt_block B3.out
    have cB30 := cell_block B3.out 0
    have lB4 := lt_block B4.out
    have cB40 := cell_block B4.out 0
    have cB41 := cell_block B4.out 1
    have lB9 := lt_block B9.out
    have cB90 := cell_block B9.out 0
    go_wp2_with fail
    go_ret
    exact ⟨rfl, H.out⟩
end Go.Proofs.Ytmlphdniiiijpaa
