/-
  The walk of FnTreeDelete.
-/
import Derived.Test.YtmlphdniiiijpaaTreeP
set_option linter.all false
namespace Go.Proofs.Ytmlphdniiiijpaa
open Go.RowKit
set_option maxHeartbeats 16000000 in
set_option maxRecDepth 100000 in
theorem fnTreeDelete_walk (v : Value) (w : World) (h : BytesAt w v) :
    Calls Try.prog 6 #[v] w fun e w' => e = .returned (.bool true) ∧ Below w.heap.size w w' := by
  have hB := hide h
  obtain ⟨a, len, cap0, rfl, hlc, hcap0, hr⟩ := h
  clear hr
  by_cases hlen : 1048576 < len
  · go_enter Try.func6, Try.ntmps6
    go_wp2_with fail
    go_ret
    exact ⟨rfl, Below.refl _ _⟩
  go_enter Try.func6, Try.ntmps6
  go_wp2_with fail
  refine (drawTreeDelete_any _ _ hB.out).mono ?_
  rintro e w1 ⟨tv, t, x, rfl, hlv, htl, hfl, hb⟩
  obtain ⟨ta, tn, tc, rfl⟩ := lvs_any hlv
  obtain ⟨xk, xr⟩ := x
  simp only
  have H := hide hb
  have LT := hide hlv
  have hn : (flatT t).length ≤ 1048576 := by omega
  clear hlv hb hB hlen hlc hcap0
  have hb := below_box2 w1 (.cells #[.slice ta tn tc] 25) (.cells #[.int .i64 xk, .int .i64 xr] 38)
  have H := hide (H.out.trans (hb.mono H.out.size))
  have LT := hide (LT.out.keep hb)
  have B3 := hide (blk_keep (blk_alloc w1 (.cells #[.slice ta tn tc] 25)) (.cells #[.int .i64 xk, .int .i64 xr] 38))
  have B4 := hide (blk_at (b := w1.heap.size + 1) (by simp) (.cells #[.int .i64 xk, .int .i64 xr] 38) : ((w1.alloc (.cells #[.slice ta tn tc] 25)).alloc (.cells #[.int .i64 xk, .int .i64 xr] 38)).heap[w1.heap.size + 1]? = some (.cells #[.int .i64 xk, .int .i64 xr] 38))
  clear hb
  go_wp2_with fail
  generalize hWx : (w1.alloc (.cells #[.slice ta tn tc] 25)).alloc (.cells #[.int .i64 xk, .int .i64 xr] 38) = w2 at *
  generalize hgx4 : w1.heap.size + 1 = gB4 at *
  generalize hgx3 : w1.heap.size = gB3 at *
  clear hWx hgx3 hgx4
  have lB3 := lt_block B3.out
  have cB30 := cell_block B3.out 0
  have lB4 := lt_block B4.out
  have cB40 := cell_block B4.out 0
  have cB41 := cell_block B4.out 1
  refine (treeDelete_any _ t ⟨xk, xr⟩ _ LT.out hn).mono ?_
  rintro e w3 ⟨vB5, r0, b0, rfl, hch, hl, hb⟩
  have H := hide (H.out.trans (hb.mono H.out.size))
  have LT := hide (LT.out.keep hb)
  have B3 := hide (blk_own hb B3.out)
  have B4 := hide (blk_own hb B4.out)
  have CHB5 := hide hch
  obtain ⟨aB5, nB5, cB5, rfl⟩ := ownL_any hl
  have LU := hide hl.lvs
  clear hch hl hb
  have lB3 := lt_block B3.out
  have cB30 := cell_block B3.out 0
  have lB4 := lt_block B4.out
  have cB40 := cell_block B4.out 0
  have cB41 := cell_block B4.out 1
  have hb := below_box w3 (.cells #[.slice aB5 nB5 cB5] 25)
  have H := hide (H.out.trans (hb.mono H.out.size))
  have LT := hide (LT.out.keep hb)
  have LU := hide (LU.out.keep hb)
  have B3 := hide (blk_own hb B3.out)
  have B4 := hide (blk_own hb B4.out)
  have B5 := hide (blk_alloc w3 (.cells #[.slice aB5 nB5 cB5] 25))
  clear hb
  go_wp2_with fail
  generalize hWx : w3.alloc (.cells #[.slice aB5 nB5 cB5] 25) = w4 at *
  generalize hgx : w3.heap.size = gB5 at *
  clear hWx hgx
  have lB3 := lt_block B3.out
  have cB30 := cell_block B3.out 0
  have lB4 := lt_block B4.out
  have cB40 := cell_block B4.out 0
  have cB41 := cell_block B4.out 1
  have lB5 := lt_block B5.out
  have cB50 := cell_block B5.out 0
  refine (streeDelete_any _ t ⟨xk, xr⟩ _ LT.out hn).mono ?_
  rintro e w5 ⟨vB7, r, b, rfl, hch, hl, hb⟩
  have H := hide (H.out.trans (hb.mono H.out.size))
  have LT := hide (LT.out.keep hb)
  have LU := hide (LU.out.keep hb)
  have B3 := hide (blk_own hb B3.out)
  have B4 := hide (blk_own hb B4.out)
  have B5 := hide (blk_own hb B5.out)
  have CHB7 := hide hch
  obtain ⟨aB7, nB7, cB7, rfl⟩ := ownR_any hl
  have LW := hide hl.lvs
  clear hch hl hb
  have lB3 := lt_block B3.out
  have cB30 := cell_block B3.out 0
  have lB4 := lt_block B4.out
  have cB40 := cell_block B4.out 0
  have cB41 := cell_block B4.out 1
  have lB5 := lt_block B5.out
  have cB50 := cell_block B5.out 0
  have hb := below_box w5 (.cells #[.slice aB7 nB7 cB7] 25)
  have H := hide (H.out.trans (hb.mono H.out.size))
  have LT := hide (LT.out.keep hb)
  have LU := hide (LU.out.keep hb)
  have LW := hide (LW.out.keep hb)
  have B3 := hide (blk_own hb B3.out)
  have B4 := hide (blk_own hb B4.out)
  have B5 := hide (blk_own hb B5.out)
  have B7 := hide (blk_alloc w5 (.cells #[.slice aB7 nB7 cB7] 25))
  clear hb
  go_wp2_with fail
  generalize hWx : w5.alloc (.cells #[.slice aB7 nB7 cB7] 25) = w6 at *
  generalize hgx : w5.heap.size = gB7 at *
  clear hWx hgx
  have lB3 := lt_block B3.out
  have cB30 := cell_block B3.out 0
  have lB4 := lt_block B4.out
  have cB40 := cell_block B4.out 0
  have cB41 := cell_block B4.out 1
  have lB5 := lt_block B5.out
  have cB50 := cell_block B5.out 0
  have lB7 := lt_block B7.out
  have cB70 := cell_block B7.out 0
  obtain ⟨hu1, hu2⟩ := ChgOf.uniq CHB5.out CHB7.out
  subst hu1
  subst hu2
  clear CHB7
  have HASB : Hid (∀ l, TIOf t l → hasI l ⟨xk, xr⟩ = b) := fun l hl => del_has CHB5.out hl
  cases b with
  | false =>
    have HD0 : Hid (Below w6.heap.size w6 w6.drew) := (Below.refl _ _).drew
    have HS : Hid (∀ z, Below w6.heap.size w6 z → (z.cell? ⟨gB5, 0, none⟩ = some (.slice aB5 nB5 cB5) ∧ z.cell? ⟨gB7, 0, none⟩ = some (.slice aB7 nB7 cB7) ∧ z.cell? ⟨gB3, 0, none⟩ = some (.slice ta tn tc) ∧ z.cell? ⟨gB4, 0, none⟩ = some (.int .i64 xk) ∧ z.cell? ⟨gB4, 1, none⟩ = some (.int .i64 xr))) := fun z hz => ⟨(hz.cell (p := ⟨gB5, 0, none⟩) (lt_block B5.out)).trans (cell_block B5.out 0), (hz.cell (p := ⟨gB7, 0, none⟩) (lt_block B7.out)).trans (cell_block B7.out 0), (hz.cell (p := ⟨gB3, 0, none⟩) (lt_block B3.out)).trans (cell_block B3.out 0), (hz.cell (p := ⟨gB4, 0, none⟩) (lt_block B4.out)).trans (cell_block B4.out 0), (hz.cell (p := ⟨gB4, 1, none⟩) (lt_block B4.out)).trans (cell_block B4.out 1)⟩
    go_wp2_with fail
    go_region_held3 (fun z => z.cell? ⟨gB5, 0, none⟩ = some (.slice aB5 nB5 cB5) ∧ z.cell? ⟨gB7, 0, none⟩ = some (.slice aB7 nB7 cB7) ∧ z.cell? ⟨gB3, 0, none⟩ = some (.slice ta tn tc) ∧ z.cell? ⟨gB4, 0, none⟩ = some (.int .i64 xk) ∧ z.cell? ⟨gB4, 1, none⟩ = some (.int .i64 xr)) (first | exact HS.out _ (Below.refl _ _) | exact HS.out _ HD0.out | exact HS.out _ HQw7.out | exact HS.out _ HQw8.out | exact HS.out _ HQw9.out) (first
      | (go_at_call 24; (with_reducible refine (equalTree_same _ _ r _ (LU.out.keep HD0.out) (LW.out.keep HD0.out)).mono ?_); rintro e w7 ⟨rfl, hb⟩; have HQw7 : Hid (Below w6.heap.size w6 w7) := HD0.out.trans (hb.mono HD0.out.size); clear hb)
      | (go_at_call 17; (with_reducible refine (treeItems_any _ t _ (LT.out.keep HQw7.out) hn).mono ?_); rintro e w8 ⟨vx, lx, rfl, hti, ho, hb⟩; have HQw8 : Hid (Below w6.heap.size w6 w8) := HQw7.out.trans (hb.mono HQw7.out.size); have HX := hide (HASB.out _ hti); have VX := hide ho.itms; obtain ⟨ax, cx, rfl, -⟩ := own_slc ho; clear hti ho; clear hb)
      | (go_at_call 28; (with_reducible refine (lholds_is _ lx ⟨xk, xr⟩ _ VX.out HX.out).mono ?_); rintro e w9 ⟨rfl, hb⟩; have HQw9 : Hid (Below w6.heap.size w6 w9) := HQw8.out.trans (hb.mono HQw8.out.size); clear hb))
    have hb := HQw9.out
    have H := hide (H.out.trans (hb.mono H.out.size))
    have LT := hide (LT.out.keep hb)
    have LU := hide (LU.out.keep hb)
    have LW := hide (LW.out.keep hb)
    have B3 := hide (blk_own hb B3.out)
    have B4 := hide (blk_own hb B4.out)
    have B5 := hide (blk_own hb B5.out)
    have B7 := hide (blk_own hb B7.out)
    clear hb HS
    have lB3 := lt_block B3.out
    have cB30 := cell_block B3.out 0
    have lB4 := lt_block B4.out
    have cB40 := cell_block B4.out 0
    have cB41 := cell_block B4.out 1
    have lB5 := lt_block B5.out
    have cB50 := cell_block B5.out 0
    have lB7 := lt_block B7.out
    have cB70 := cell_block B7.out 0
    have HD0 : Hid (Below w9.heap.size w9 w9.drew) := (Below.refl _ _).drew
    have HS : Hid (∀ z, Below w9.heap.size w9 z → (z.cell? ⟨gB5, 0, none⟩ = some (.slice aB5 nB5 cB5) ∧ z.cell? ⟨gB7, 0, none⟩ = some (.slice aB7 nB7 cB7) ∧ z.cell? ⟨gB3, 0, none⟩ = some (.slice ta tn tc) ∧ z.cell? ⟨gB4, 0, none⟩ = some (.int .i64 xk) ∧ z.cell? ⟨gB4, 1, none⟩ = some (.int .i64 xr))) := fun z hz => ⟨(hz.cell (p := ⟨gB5, 0, none⟩) (lt_block B5.out)).trans (cell_block B5.out 0), (hz.cell (p := ⟨gB7, 0, none⟩) (lt_block B7.out)).trans (cell_block B7.out 0), (hz.cell (p := ⟨gB3, 0, none⟩) (lt_block B3.out)).trans (cell_block B3.out 0), (hz.cell (p := ⟨gB4, 0, none⟩) (lt_block B4.out)).trans (cell_block B4.out 0), (hz.cell (p := ⟨gB4, 1, none⟩) (lt_block B4.out)).trans (cell_block B4.out 1)⟩
    go_wp2_with fail
    go_region_held3 (fun z => z.cell? ⟨gB5, 0, none⟩ = some (.slice aB5 nB5 cB5) ∧ z.cell? ⟨gB7, 0, none⟩ = some (.slice aB7 nB7 cB7) ∧ z.cell? ⟨gB3, 0, none⟩ = some (.slice ta tn tc) ∧ z.cell? ⟨gB4, 0, none⟩ = some (.int .i64 xk) ∧ z.cell? ⟨gB4, 1, none⟩ = some (.int .i64 xr)) (first | exact HS.out _ (Below.refl _ _) | exact HS.out _ HD0.out | exact HS.out _ HQw10.out | exact HS.out _ HQw11.out | exact HS.out _ HQw12.out) (first
      | (go_at_call 24; (with_reducible refine (equalTree_same _ _ r _ (LU.out.keep HD0.out) (LW.out.keep HD0.out)).mono ?_); rintro e w10 ⟨rfl, hb⟩; have HQw10 : Hid (Below w9.heap.size w9 w10) := HD0.out.trans (hb.mono HD0.out.size); clear hb)
      | (go_at_call 17; (with_reducible refine (treeItems_any _ t _ (LT.out.keep HQw10.out) hn).mono ?_); rintro e w11 ⟨vx, lx, rfl, hti, ho, hb⟩; have HQw11 : Hid (Below w9.heap.size w9 w11) := HQw10.out.trans (hb.mono HQw10.out.size); have HX := hide (HASB.out _ hti); have VX := hide ho.itms; obtain ⟨ax, cx, rfl, -⟩ := own_slc ho; clear hti ho; clear hb)
      | (go_at_call 28; (with_reducible refine (lholds_is _ lx ⟨xk, xr⟩ _ VX.out HX.out).mono ?_); rintro e w12 ⟨rfl, hb⟩; have HQw12 : Hid (Below w9.heap.size w9 w12) := HQw11.out.trans (hb.mono HQw11.out.size); clear hb))
    have hb := HQw12.out
    have H := hide (H.out.trans (hb.mono H.out.size))
    have LT := hide (LT.out.keep hb)
    have LU := hide (LU.out.keep hb)
    have LW := hide (LW.out.keep hb)
    have B3 := hide (blk_own hb B3.out)
    have B4 := hide (blk_own hb B4.out)
    have B5 := hide (blk_own hb B5.out)
    have B7 := hide (blk_own hb B7.out)
    clear hb HS
    have lB3 := lt_block B3.out
    have cB30 := cell_block B3.out 0
    have lB4 := lt_block B4.out
    have cB40 := cell_block B4.out 0
    have cB41 := cell_block B4.out 1
    have lB5 := lt_block B5.out
    have cB50 := cell_block B5.out 0
    have lB7 := lt_block B7.out
    have cB70 := cell_block B7.out 0
    go_wp2_with fail
    go_ret
    exact ⟨rfl, H.out⟩
  | true =>
    have D := hide (delD CHB5.out)
    have hr30 := D.out.vr.n
    have hnr : (flatT r).length ≤ 1048576 := by omega
    have ht30 := D.out.vt.n
    have HD0 : Hid (Below w6.heap.size w6 w6.drew) := (Below.refl _ _).drew
    have HS : Hid (∀ z, Below w6.heap.size w6 z → (z.cell? ⟨gB5, 0, none⟩ = some (.slice aB5 nB5 cB5) ∧ z.cell? ⟨gB7, 0, none⟩ = some (.slice aB7 nB7 cB7) ∧ z.cell? ⟨gB3, 0, none⟩ = some (.slice ta tn tc) ∧ z.cell? ⟨gB4, 0, none⟩ = some (.int .i64 xk) ∧ z.cell? ⟨gB4, 1, none⟩ = some (.int .i64 xr))) := fun z hz => ⟨(hz.cell (p := ⟨gB5, 0, none⟩) (lt_block B5.out)).trans (cell_block B5.out 0), (hz.cell (p := ⟨gB7, 0, none⟩) (lt_block B7.out)).trans (cell_block B7.out 0), (hz.cell (p := ⟨gB3, 0, none⟩) (lt_block B3.out)).trans (cell_block B3.out 0), (hz.cell (p := ⟨gB4, 0, none⟩) (lt_block B4.out)).trans (cell_block B4.out 0), (hz.cell (p := ⟨gB4, 1, none⟩) (lt_block B4.out)).trans (cell_block B4.out 1)⟩
    go_wp2_with fail
    go_region_held3 (fun z => z.cell? ⟨gB5, 0, none⟩ = some (.slice aB5 nB5 cB5) ∧ z.cell? ⟨gB7, 0, none⟩ = some (.slice aB7 nB7 cB7) ∧ z.cell? ⟨gB3, 0, none⟩ = some (.slice ta tn tc) ∧ z.cell? ⟨gB4, 0, none⟩ = some (.int .i64 xk) ∧ z.cell? ⟨gB4, 1, none⟩ = some (.int .i64 xr)) (first | exact HS.out _ (Below.refl _ _) | exact HS.out _ HD0.out | exact HS.out _ HQw13.out | exact HS.out _ HQw14.out | exact HS.out _ HQw15.out) (first
      | (go_at_call 24; (with_reducible refine (equalTree_same _ _ r _ (LU.out.keep HD0.out) (LW.out.keep HD0.out)).mono ?_); rintro e w13 ⟨rfl, hb⟩; have HQw13 : Hid (Below w6.heap.size w6 w13) := HD0.out.trans (hb.mono HD0.out.size); clear hb)
      | (go_at_call 17; (with_reducible refine (treeItems_any _ t _ (LT.out.keep HQw13.out) hn).mono ?_); rintro e w14 ⟨vx, lx, rfl, hti, ho, hb⟩; have HQw14 : Hid (Below w6.heap.size w6 w14) := HQw13.out.trans (hb.mono HQw13.out.size); have HX := hide (HASB.out _ hti); have VX := hide ho.itms; obtain ⟨ax, cx, rfl, -⟩ := own_slc ho; clear hti ho; clear hb)
      | (go_at_call 28; (with_reducible refine (lholds_is _ lx ⟨xk, xr⟩ _ VX.out HX.out).mono ?_); rintro e w15 ⟨rfl, hb⟩; have HQw15 : Hid (Below w6.heap.size w6 w15) := HQw14.out.trans (hb.mono HQw14.out.size); clear hb))
    have hb := HQw15.out
    have H := hide (H.out.trans (hb.mono H.out.size))
    have LT := hide (LT.out.keep hb)
    have LU := hide (LU.out.keep hb)
    have LW := hide (LW.out.keep hb)
    have B3 := hide (blk_own hb B3.out)
    have B4 := hide (blk_own hb B4.out)
    have B5 := hide (blk_own hb B5.out)
    have B7 := hide (blk_own hb B7.out)
    clear hb HS
    have lB3 := lt_block B3.out
    have cB30 := cell_block B3.out 0
    have lB4 := lt_block B4.out
    have cB40 := cell_block B4.out 0
    have cB41 := cell_block B4.out 1
    have lB5 := lt_block B5.out
    have cB50 := cell_block B5.out 0
    have lB7 := lt_block B7.out
    have cB70 := cell_block B7.out 0
    clear LW
    clear lB7 cB70
    clear B7
    go_wp2_with fail
    refine (treeItems_any _ t _ LT.out hn).mono ?_
    rintro e w16 ⟨vl9, l9, rfl, hti, ho, hb⟩
    have H := hide (H.out.trans (hb.mono H.out.size))
    have LT := hide (LT.out.keep hb)
    have LU := hide (LU.out.keep hb)
    have B3 := hide (blk_own hb B3.out)
    have B4 := hide (blk_own hb B4.out)
    have B5 := hide (blk_own hb B5.out)
    have El9 : Hid (l9 = flatT t) := hti.of D.out.vt
    have V9 := hide ho.itms
    obtain ⟨al9, cl9, rfl, -⟩ := own_slc ho
    clear hti ho hb
    have lB3 := lt_block B3.out
    have cB30 := cell_block B3.out 0
    have lB4 := lt_block B4.out
    have cB40 := cell_block B4.out 0
    have cB41 := cell_block B4.out 1
    have lB5 := lt_block B5.out
    have cB50 := cell_block B5.out 0
    go_wp2_with fail
    refine (treeItems_any _ r _ LU.out hnr).mono ?_
    rintro e w17 ⟨vl10, l10, rfl, hti, ho, hb⟩
    have H := hide (H.out.trans (hb.mono H.out.size))
    have LT := hide (LT.out.keep hb)
    have LU := hide (LU.out.keep hb)
    have V9 := hide (V9.out.keep hb)
    have B3 := hide (blk_own hb B3.out)
    have B4 := hide (blk_own hb B4.out)
    have B5 := hide (blk_own hb B5.out)
    have El10 : Hid (l10 = flatT r) := hti.of D.out.vr
    have V10 := hide ho.itms
    obtain ⟨al10, cl10, rfl, -⟩ := own_slc ho
    clear hti ho hb
    have lB3 := lt_block B3.out
    have cB30 := cell_block B3.out 0
    have lB4 := lt_block B4.out
    have cB40 := cell_block B4.out 0
    have cB41 := cell_block B4.out 1
    have lB5 := lt_block B5.out
    have cB50 := cell_block B5.out 0
    have HSUB : Hid (∀ y ∈ l10, hasI l9 y = true) := by rw [El9.out, El10.out]; exact D.out.sub
    have HNX : Hid (hasI l10 ⟨xk, xr⟩ = false) := by rw [El10.out]; exact D.out.no
    have hl9 : l9.length ≤ 30 := by rw [El9.out]; exact ht30
    have HLN : Hid (l10.length + 1 = l9.length) := by rw [El9.out, El10.out]; exact D.out.ln
    have dl : ((l10.length : Int) == (l9.length : Int) - 1) = true := by simp only [beq_iff_eq]; have := HLN.out; omega
    have hl1 : 1 ≤ l9.length := by have := HLN.out; omega
    clear LT
    clear lB3 cB30
    clear B3
    have HV := hide V10.out
    obtain ⟨oa, oc, hoe, hol, hoc, hod⟩ := V10.out
    injection hoe with hoe1 hoe2 hoe3
    subst hoe1 hoe3
    clear hoe2
    go_wp2_with fail
    go_loopg [11] l10.length (fun gk s11 wr => Below w17.heap.size w17 wr ∧ ∃ k : Nat, k + gk = l10.length ∧ s11 = .int .i64 (k : Int))
    case atStart => exact ⟨Below.refl _ _, 0, by omega, rfl⟩
    case round =>
      obtain ⟨hbw, k, hk, rfl⟩ := hrel
      have HW := hide hbw
      by_cases hlt : k < l10.length
      · obtain ⟨bo, off, rfl, hbb, hcell⟩ := hod.resolve_left (by rintro rfl; simp at hlt)
        obtain ⟨e0, e1⟩ := (hcell k hlt).keep hbw
        have HH := hide (HSUB.out _ (List.getElem_mem hlt))
        have VV := hide (V9.out.keep hbw)
        clear hcell hod hbw
        generalize l10[k] = y at *
        go_wp2_with fail
        refine (lholds_is _ l9 y _ VV.out HH.out).mono ?_
        rintro e w9 ⟨rfl, hb⟩
        have H9 := hide (HW.out.trans (hb.mono HW.out.size))
        clear hb
        go_wp2_with fail
        go_roundg (gk - 1)
        case measure => omega
        case rel => exact ⟨H9.out, k + 1, by omega, by go_num⟩
      · have hkl : k = l10.length := by omega
        subst hkl
        have hb := hbw
        have H := hide (H.out.trans (hb.mono H.out.size))
        have LU := hide (LU.out.keep hb)
        have V9 := hide (V9.out.keep hb)
        have V10 := hide (V10.out.keep hb)
        have B4 := hide (blk_own hb B4.out)
        have B5 := hide (blk_own hb B5.out)
        clear hb hbw HW hod HV
        have lB4 := lt_block B4.out
        have cB40 := cell_block B4.out 0
        have cB41 := cell_block B4.out 1
        have lB5 := lt_block B5.out
        have cB50 := cell_block B5.out 0
        go_wp2_with fail
        refine (validTree_any _ r _ LU.out hnr).mono ?_
        rintro e w18 ⟨q, rfl, hq, hb⟩
        have H := hide (H.out.trans (hb.mono H.out.size))
        have LU := hide (LU.out.keep hb)
        have V9 := hide (V9.out.keep hb)
        have V10 := hide (V10.out.keep hb)
        have B4 := hide (blk_own hb B4.out)
        have B5 := hide (blk_own hb B5.out)
        obtain rfl : q = true := hq.2 D.out.vr
        clear hq hb
        have lB4 := lt_block B4.out
        have cB40 := cell_block B4.out 0
        have cB41 := cell_block B4.out 1
        have lB5 := lt_block B5.out
        have cB50 := cell_block B5.out 0
        go_wp2_with fail
        refine (lholds_is _ l10 ⟨xk, xr⟩ _ V10.out HNX.out).mono ?_
        rintro e w19 ⟨rfl, hb⟩
        have H := hide (H.out.trans (hb.mono H.out.size))
        have LU := hide (LU.out.keep hb)
        have V9 := hide (V9.out.keep hb)
        have V10 := hide (V10.out.keep hb)
        have B4 := hide (blk_own hb B4.out)
        have B5 := hide (blk_own hb B5.out)
        clear hb
        have lB4 := lt_block B4.out
        have cB40 := cell_block B4.out 0
        have cB41 := cell_block B4.out 1
        have lB5 := lt_block B5.out
        have cB50 := cell_block B5.out 0
        go_wp2_with fail
        go_ret
        exact ⟨rfl, H.out⟩
end Go.Proofs.Ytmlphdniiiijpaa
