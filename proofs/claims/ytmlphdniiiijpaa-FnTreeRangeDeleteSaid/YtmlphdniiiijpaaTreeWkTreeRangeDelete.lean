/-
  The walk of FnTreeRangeDelete.
-/
import Derived.Test.YtmlphdniiiijpaaTreeP
set_option linter.all false
namespace Go.Proofs.Ytmlphdniiiijpaa
open Go.RowKit
set_option maxHeartbeats 16000000 in
set_option maxRecDepth 100000 in
theorem fnTreeRangeDelete_walk (v : Value) (w : World) (h : BytesAt w v) :
    Calls Try.prog 8 #[v] w fun e w' => e = .returned (.bool true) ∧ Below w.heap.size w w' := by
  have hB := hide h
  obtain ⟨a, len, cap0, rfl, hlc, hcap0, hr⟩ := h
  clear hr
  by_cases hlen : 1048576 < len
  · go_enter Try.func8, Try.ntmps8
    go_wp2_with fail
    go_ret
    exact ⟨rfl, Below.refl _ _⟩
  go_enter Try.func8, Try.ntmps8
  go_wp2_with fail
  refine (drawTreeDelete_any _ _ hB.out).mono ?_
  rintro e w1 ⟨tv, t, x, rfl, hlv, htl, hfl, hb⟩
  obtain ⟨ta, tn, tc, rfl⟩ := lvs_any hlv
  obtain ⟨xk, xr⟩ := x
  simp only
  have H := hide hb
  have LT := hide hlv
  have hn : (flatT t).length ≤ 1048576 := by omega
  clear hlv hb hB hlen hlc hcap0
  have hb := below_box2 w1 (.cells #[.slice ta tn tc] 25) (.cells #[.int .i64 xk, .int .i64 xr] 38)
  have H := hide (H.out.trans (hb.mono H.out.size))
  have LT := hide (LT.out.keep hb)
  have B3 := hide (blk_keep (blk_alloc w1 (.cells #[.slice ta tn tc] 25)) (.cells #[.int .i64 xk, .int .i64 xr] 38))
  have B4 := hide (blk_at (b := w1.heap.size + 1) (by simp) (.cells #[.int .i64 xk, .int .i64 xr] 38) : ((w1.alloc (.cells #[.slice ta tn tc] 25)).alloc (.cells #[.int .i64 xk, .int .i64 xr] 38)).heap[w1.heap.size + 1]? = some (.cells #[.int .i64 xk, .int .i64 xr] 38))
  clear hb
  go_wp2_with fail
  generalize hWx : (w1.alloc (.cells #[.slice ta tn tc] 25)).alloc (.cells #[.int .i64 xk, .int .i64 xr] 38) = w2 at *
  generalize hgx4 : w1.heap.size + 1 = gB4 at *
  generalize hgx3 : w1.heap.size = gB3 at *
  clear hWx hgx3 hgx4
  have lB3 := lt_block B3.out
  have cB30 := cell_block B3.out 0
  have lB4 := lt_block B4.out
  have cB40 := cell_block B4.out 0
  have cB41 := cell_block B4.out 1
  refine (treeDelete_any _ t ⟨xk, xr⟩ _ LT.out hn).mono ?_
  rintro e w3 ⟨vB5, r0, b0, rfl, hch, hl, hb⟩
  have H := hide (H.out.trans (hb.mono H.out.size))
  have LT := hide (LT.out.keep hb)
  have B3 := hide (blk_own hb B3.out)
  have B4 := hide (blk_own hb B4.out)
  have CHB5 := hide hch
  obtain ⟨aB5, nB5, cB5, rfl⟩ := ownL_any hl
  have LU := hide hl.lvs
  clear hch hl hb
  have lB3 := lt_block B3.out
  have cB30 := cell_block B3.out 0
  have lB4 := lt_block B4.out
  have cB40 := cell_block B4.out 0
  have cB41 := cell_block B4.out 1
  have hb := below_box w3 (.cells #[.slice aB5 nB5 cB5] 25)
  have H := hide (H.out.trans (hb.mono H.out.size))
  have LT := hide (LT.out.keep hb)
  have LU := hide (LU.out.keep hb)
  have B3 := hide (blk_own hb B3.out)
  have B4 := hide (blk_own hb B4.out)
  have B5 := hide (blk_alloc w3 (.cells #[.slice aB5 nB5 cB5] 25))
  clear hb
  go_wp2_with fail
  generalize hWx : w3.alloc (.cells #[.slice aB5 nB5 cB5] 25) = w4 at *
  generalize hgx : w3.heap.size = gB5 at *
  clear hWx hgx
  have lB3 := lt_block B3.out
  have cB30 := cell_block B3.out 0
  have lB4 := lt_block B4.out
  have cB40 := cell_block B4.out 0
  have cB41 := cell_block B4.out 1
  have lB5 := lt_block B5.out
  have cB50 := cell_block B5.out 0
  refine (streeDelete_any _ t ⟨xk, xr⟩ _ LT.out hn).mono ?_
  rintro e w5 ⟨vB7, r, b, rfl, hch, hl, hb⟩
  have H := hide (H.out.trans (hb.mono H.out.size))
  have LT := hide (LT.out.keep hb)
  have LU := hide (LU.out.keep hb)
  have B3 := hide (blk_own hb B3.out)
  have B4 := hide (blk_own hb B4.out)
  have B5 := hide (blk_own hb B5.out)
  have CHB7 := hide hch
  obtain ⟨aB7, nB7, cB7, rfl⟩ := ownR_any hl
  have LW := hide hl.lvs
  clear hch hl hb
  have lB3 := lt_block B3.out
  have cB30 := cell_block B3.out 0
  have lB4 := lt_block B4.out
  have cB40 := cell_block B4.out 0
  have cB41 := cell_block B4.out 1
  have lB5 := lt_block B5.out
  have cB50 := cell_block B5.out 0
  have hb := below_box w5 (.cells #[.slice aB7 nB7 cB7] 25)
  have H := hide (H.out.trans (hb.mono H.out.size))
  have LT := hide (LT.out.keep hb)
  have LU := hide (LU.out.keep hb)
  have LW := hide (LW.out.keep hb)
  have B3 := hide (blk_own hb B3.out)
  have B4 := hide (blk_own hb B4.out)
  have B5 := hide (blk_own hb B5.out)
  have B7 := hide (blk_alloc w5 (.cells #[.slice aB7 nB7 cB7] 25))
  clear hb
  go_wp2_with fail
  generalize hWx : w5.alloc (.cells #[.slice aB7 nB7 cB7] 25) = w6 at *
  generalize hgx : w5.heap.size = gB7 at *
  clear hWx hgx
  have lB3 := lt_block B3.out
  have cB30 := cell_block B3.out 0
  have lB4 := lt_block B4.out
  have cB40 := cell_block B4.out 0
  have cB41 := cell_block B4.out 1
  have lB5 := lt_block B5.out
  have cB50 := cell_block B5.out 0
  have lB7 := lt_block B7.out
  have cB70 := cell_block B7.out 0
  obtain ⟨hu1, hu2⟩ := ChgOf.uniq CHB5.out CHB7.out
  subst hu1
  subst hu2
  clear CHB7
  cases b with
  | false =>
    go_wp2_with fail
    refine (equalTree_same _ _ r _ LU.out LW.out).mono ?_
    rintro e w7 ⟨rfl, hb⟩
    have H := hide (H.out.trans (hb.mono H.out.size))
    have LT := hide (LT.out.keep hb)
    have LU := hide (LU.out.keep hb)
    have LW := hide (LW.out.keep hb)
    have B3 := hide (blk_own hb B3.out)
    have B4 := hide (blk_own hb B4.out)
    have B5 := hide (blk_own hb B5.out)
    have B7 := hide (blk_own hb B7.out)
    clear hb
    have lB3 := lt_block B3.out
    have cB30 := cell_block B3.out 0
    have lB4 := lt_block B4.out
    have cB40 := cell_block B4.out 0
    have cB41 := cell_block B4.out 1
    have lB5 := lt_block B5.out
    have cB50 := cell_block B5.out 0
    have lB7 := lt_block B7.out
    have cB70 := cell_block B7.out 0
    go_wp2_with fail
    refine (equalTree_same _ _ r _ LU.out LW.out).mono ?_
    rintro e w8 ⟨rfl, hb⟩
    have H := hide (H.out.trans (hb.mono H.out.size))
    have LT := hide (LT.out.keep hb)
    have LU := hide (LU.out.keep hb)
    have LW := hide (LW.out.keep hb)
    have B3 := hide (blk_own hb B3.out)
    have B4 := hide (blk_own hb B4.out)
    have B5 := hide (blk_own hb B5.out)
    have B7 := hide (blk_own hb B7.out)
    clear hb
    have lB3 := lt_block B3.out
    have cB30 := cell_block B3.out 0
    have lB4 := lt_block B4.out
    have cB40 := cell_block B4.out 0
    have cB41 := cell_block B4.out 1
    have lB5 := lt_block B5.out
    have cB50 := cell_block B5.out 0
    have lB7 := lt_block B7.out
    have cB70 := cell_block B7.out 0
    go_wp2_with fail
    go_ret
    exact ⟨rfl, H.out⟩
  | true =>
    have D := hide (delD CHB5.out)
    have hr30 := D.out.vr.n
    have hnr : (flatT r).length ≤ 1048576 := by omega
    have ht30 := D.out.vt.n
    go_wp2_with fail
    refine (equalTree_same _ _ r _ LU.out LW.out).mono ?_
    rintro e w9 ⟨rfl, hb⟩
    have H := hide (H.out.trans (hb.mono H.out.size))
    have LT := hide (LT.out.keep hb)
    have LU := hide (LU.out.keep hb)
    have LW := hide (LW.out.keep hb)
    have B3 := hide (blk_own hb B3.out)
    have B4 := hide (blk_own hb B4.out)
    have B5 := hide (blk_own hb B5.out)
    have B7 := hide (blk_own hb B7.out)
    clear hb
    have lB3 := lt_block B3.out
    have cB30 := cell_block B3.out 0
    have lB4 := lt_block B4.out
    have cB40 := cell_block B4.out 0
    have cB41 := cell_block B4.out 1
    have lB5 := lt_block B5.out
    have cB50 := cell_block B5.out 0
    have lB7 := lt_block B7.out
    have cB70 := cell_block B7.out 0
    clear LW
    clear lB7 cB70
    clear B7
    go_wp2_with fail
    refine (treeRange_any _ t 0 8 _ LT.out hn).mono ?_
    rintro e w10 ⟨vl9, l9, rfl, hrg, ho, hb⟩
    have H := hide (H.out.trans (hb.mono H.out.size))
    have LT := hide (LT.out.keep hb)
    have LU := hide (LU.out.keep hb)
    have B3 := hide (blk_own hb B3.out)
    have B4 := hide (blk_own hb B4.out)
    have B5 := hide (blk_own hb B5.out)
    have Rl9 := hide hrg
    have V9 := hide ho.itms
    obtain ⟨al9, cl9, rfl, -⟩ := own_slc ho
    clear hrg ho hb
    have lB3 := lt_block B3.out
    have cB30 := cell_block B3.out 0
    have lB4 := lt_block B4.out
    have cB40 := cell_block B4.out 0
    have cB41 := cell_block B4.out 1
    have lB5 := lt_block B5.out
    have cB50 := cell_block B5.out 0
    have hl9 : l9.length ≤ 30 := by rw [Rl9.out.1 D.out.vt]; exact Nat.le_trans (List.length_filter_le _ _) ht30
    have HV := hide V9.out
    obtain ⟨oa, oc, hoe, hol, hoc, hod⟩ := V9.out
    injection hoe with hoe1 hoe2 hoe3
    subst hoe1 hoe3
    clear hoe2
    have LB0 := hide (below_box w10 (.cells #[] 38))
    have O0 : Hid (OwnI w10.heap.size (w10.alloc (.cells #[] 38)) (.slice (some ⟨w10.heap.size, 0, none⟩) 0 0) []) := own_lit_at rfl (Nat.le_refl _)
    go_wp2_with fail
    go_loopg [10, 11] l9.length (fun gk s10 s11 wr => Below w10.heap.size w10 wr ∧ ∃ k : Nat, k + gk = l9.length ∧ s11 = .int .i64 (k : Int) ∧ OwnI w10.heap.size wr s10 (delL (l9.take k) ⟨xk, xr⟩))
    case atStart => exact ⟨LB0.out, 0, by omega, rfl, O0.out⟩
    case round =>
      clear LB0 O0
      obtain ⟨hbw, k, hk, rfl, hown⟩ := hrel
      have HW := hide hbw
      have HO := hide hown
      obtain ⟨ga, gn, gc, rfl⟩ := ownI_any hown
      clear hown
      by_cases hlt : k < l9.length
      · obtain ⟨bo, off, rfl, hbb, hcell⟩ := hod.resolve_left (by rintro rfl; simp at hlt)
        have E := hide ((hcell k hlt).keep hbw)
        have hbl := Nat.lt_of_lt_of_le hbb hbw.size
        have B4r := hide (blk_own hbw B4.out)
        have hbx := lt_block B4r.out
        have HT := hide (delL_take (x := ⟨xk, xr⟩) hlt)
        have hcl : (delL (l9.take k) ⟨xk, xr⟩).length ≤ k := Nat.le_trans (List.length_filter_le _ _) (by rw [List.length_take]; omega)
        clear hcell hod hbw
        generalize l9[k] = y at *
        obtain ⟨L1, hL1⟩ : ∃ L1, delL (l9.take (k + 1)) ⟨xk, xr⟩ = L1 := ⟨_, rfl⟩
        obtain ⟨L0, hL0⟩ : ∃ L0, delL (l9.take k) ⟨xk, xr⟩ = L0 := ⟨_, rfl⟩
        have HL1 := hide hL1
        rw [hL0] at HT HO hcl
        rw [hL1] at HT
        clear hL1 hL0
        have hzw := HW.out.size
        obtain ⟨e0, e1⟩ := E.out
        have g0 := fun z : BW wr => bw_cell (p := ⟨bo, off + k * 2, none⟩) hbl E.out.1 z
        have g1 := fun z : BW wr => bw_cell (p := ⟨bo, off + k * 2 + 1, none⟩) hbl E.out.2 z
        have g2 := fun z : BW wr => bw_cell (p := ⟨gB4, 0, none⟩) hbx (cell_block B4r.out 0) z
        have g3 := fun z : BW wr => bw_cell (p := ⟨gB4, 1, none⟩) hbx (cell_block B4r.out 1) z
        have hgd := guard_itm .neq y ⟨xk, xr⟩
        cases hq : (y.k == xk && y.r == xr) with
        | true =>
          have hneq : ∀ z, (binOp .neq 38 (.agg #[.int .i64 y.k, .int .i64 y.r]) (.agg #[.int .i64 xk, .int .i64 xr])).run Try.prog z = .ok (.bool false) z := fun z => by have := neq_itm y ⟨xk, xr⟩ z; rw [this]; simp only; rw [hq]; rfl
          have HE : Hid (L1 = L0) := by unfold Hid; have := HT.out; simp only [hq] at this; simpa using this
          clear hq HT
          go_wp2_with fail
          refine wp_region_bw (by kernel_rfl) (by kernel_rfl) ?_
          repeat (go_big_quiet_step (fail))
          refine wpQuiet_nil ?_
          rintro _ ⟨z, rfl⟩
          have H1 : Hid (Below w10.heap.size w10 z.v) := HW.out.trans (z.h.mono HW.out.size)
          have HO1 := hide (HO.out.keep z.h)
          clear g0 g1 g2 g3 hneq hgd
          go_wp2_with fail
          go_roundg (gk - 1)
          case measure => omega
          case rel => exact ⟨H1.out, k + 1, by omega, by go_num, by rw [HL1.out, HE.out]; exact HO1.out⟩
        | false =>
          have hneq : ∀ z, (binOp .neq 38 (.agg #[.int .i64 y.k, .int .i64 y.r]) (.agg #[.int .i64 xk, .int .i64 xr])).run Try.prog z = .ok (.bool true) z := fun z => by have := neq_itm y ⟨xk, xr⟩ z; rw [this]; simp only; rw [hq]; rfl
          have HE : Hid (L1 = L0 ++ [y]) := by unfold Hid; have := HT.out; simp only [hq] at this; simpa using this
          clear hq HT
          go_wp2_with fail
          refine wp_region_bw (by kernel_rfl) (by kernel_rfl) ?_
          repeat (go_big_quiet_step (fail))
          refine wpQuiet_nil ?_
          rintro _ ⟨z, rfl⟩
          have H1 : Hid (Below w10.heap.size w10 z.v) := HW.out.trans (z.h.mono HW.out.size)
          have HO1 := hide (HO.out.keep z.h)
          have h0 := g0 z
          have h1 := g1 z
          clear g0 g1 g2 g3 hneq hgd
          have hsz := H1.out.size
          go_wp2_with (at_builtin; refine wpList_appI rfl (.tmp 68) (.tmp 73) rfl w10.heap.size _ L0 rfl (World.ownsRow.alloc HO1.out _) (by omega) _ [y] rfl (one_itms (blk_alloc z.v _)) nilOk_some (by simp) (by simp; omega) ?next)
          case next =>
            intro v8 w8 ho hg8
            have H8 : Hid (Below w10.heap.size w10 w8) := (H1.out.alloc H1.out.size _).grown hg8 (by simp; omega) (fun q hq => (World.ownsRow.lt HO1.out q hq).1)
            have HO8 := hide ho
            clear ho hg8
            go_wp2_with fail
            go_roundg (gk - 1)
            case measure => omega
            case rel => exact ⟨H8.out, k + 1, by omega, by go_num, by rw [HL1.out, HE.out]; exact HO8.out⟩
      · have hkl : k = l9.length := by omega
        subst hkl
        rw [List.take_length] at HO
        have hb := hbw
        have H := hide (H.out.trans (hb.mono H.out.size))
        have LT := hide (LT.out.keep hb)
        have LU := hide (LU.out.keep hb)
        have V9 := hide (V9.out.keep hb)
        have B3 := hide (blk_own hb B3.out)
        have B4 := hide (blk_own hb B4.out)
        have B5 := hide (blk_own hb B5.out)
        have VL := hide HO.out.itms
        clear hb hbw HW hod HV HO
        have lB3 := lt_block B3.out
        have cB30 := cell_block B3.out 0
        have lB4 := lt_block B4.out
        have cB40 := cell_block B4.out 0
        have cB41 := cell_block B4.out 1
        have lB5 := lt_block B5.out
        have cB50 := cell_block B5.out 0
        go_wp2_with fail
        refine (treeRange_any _ r 0 8 _ LU.out hnr).mono ?_
        rintro e w11 ⟨vl12, l12, rfl, hrg, ho, hb⟩
        have H := hide (H.out.trans (hb.mono H.out.size))
        have LT := hide (LT.out.keep hb)
        have LU := hide (LU.out.keep hb)
        have V9 := hide (V9.out.keep hb)
        have VL := hide (VL.out.keep hb)
        have B3 := hide (blk_own hb B3.out)
        have B4 := hide (blk_own hb B4.out)
        have B5 := hide (blk_own hb B5.out)
        have e12 : delL l9 ⟨xk, xr⟩ = l12 := (rng_del D.out Rl9.out hrg).symm
        rw [e12] at VL
        have V12 := hide ho.itms
        obtain ⟨al12, cl12, rfl, -⟩ := own_slc ho
        clear hrg ho hb e12
        go_wp2_with fail
        refine (equalItems_same _ _ l12 _ V12.out VL.out).mono ?_
        rintro e w12 ⟨rfl, hb⟩
        have H := hide (H.out.trans (hb.mono H.out.size))
        clear hb
        go_wp2_with fail
        go_ret
        exact ⟨rfl, H.out⟩
end Go.Proofs.Ytmlphdniiiijpaa
