/-
  The walk of FnTreeLoad.
-/
import Derived.Test.YtmlphdniiiijpaaTreeP
set_option linter.all false
namespace Go.Proofs.Ytmlphdniiiijpaa
open Go.RowKit
set_option maxHeartbeats 16000000 in
set_option maxRecDepth 100000 in
theorem fnTreeLoad_walk (v : Value) (w : World) (h : BytesAt w v) :
    Calls Try.prog 5 #[v] w fun e w' => e = .returned (.bool true) ∧ Below w.heap.size w w' := by
  have hB := hide h
  obtain ⟨a, len, cap0, rfl, hlc, hcap0, hr⟩ := h
  clear hr
  by_cases hlen : 1048576 < len
  · go_enter Try.func5, Try.ntmps5
    go_wp2_with fail
    go_ret
    exact ⟨rfl, Below.refl _ _⟩
  go_enter Try.func5, Try.ntmps5
  go_wp2_with fail
  refine (drawTreeLoad_any _ _ hB.out).mono ?_
  rintro e w1 ⟨lv, l, rfl, ho, hll, hb⟩
  have H := hide hb
  have V3 := hide ho.itms
  obtain ⟨la, lc, rfl, -⟩ := own_slc ho
  clear ho hb hB hlc hcap0
  go_wp2_with fail
  refine (treeLoad_all _ l _ V3.out).mono ?_
  rintro e w2 ⟨vB4, r0, b0, rfl, hch, hl, hb⟩
  have H := hide (H.out.trans (hb.mono H.out.size))
  have V3 := hide (V3.out.keep hb)
  have CHB4 := hide hch
  obtain ⟨aB4, nB4, cB4, rfl⟩ := ownL_any hl
  have LU := hide hl.lvs
  clear hch hl hb
  have hb := below_box w2 (.cells #[.slice aB4 nB4 cB4] 25)
  have H := hide (H.out.trans (hb.mono H.out.size))
  have V3 := hide (V3.out.keep hb)
  have LU := hide (LU.out.keep hb)
  have B4 := hide (blk_alloc w2 (.cells #[.slice aB4 nB4 cB4] 25))
  clear hb
  go_wp2_with fail
  generalize hWx : w2.alloc (.cells #[.slice aB4 nB4 cB4] 25) = w3 at *
  generalize hgx : w2.heap.size = gB4 at *
  clear hWx hgx
  have lB4 := lt_block B4.out
  have cB40 := cell_block B4.out 0
  refine (streeLoad_any _ l _ V3.out).mono ?_
  rintro e w4 ⟨vB6, r, b, rfl, hch, hl, hb⟩
  have H := hide (H.out.trans (hb.mono H.out.size))
  have V3 := hide (V3.out.keep hb)
  have LU := hide (LU.out.keep hb)
  have B4 := hide (blk_own hb B4.out)
  have CHB6 := hide hch
  obtain ⟨aB6, nB6, cB6, rfl⟩ := ownR_any hl
  have LW := hide hl.lvs
  clear hch hl hb
  have lB4 := lt_block B4.out
  have cB40 := cell_block B4.out 0
  have hb := below_box w4 (.cells #[.slice aB6 nB6 cB6] 25)
  have H := hide (H.out.trans (hb.mono H.out.size))
  have V3 := hide (V3.out.keep hb)
  have LU := hide (LU.out.keep hb)
  have LW := hide (LW.out.keep hb)
  have B4 := hide (blk_own hb B4.out)
  have B6 := hide (blk_alloc w4 (.cells #[.slice aB6 nB6 cB6] 25))
  clear hb
  go_wp2_with fail
  generalize hWx : w4.alloc (.cells #[.slice aB6 nB6 cB6] 25) = w5 at *
  generalize hgx : w4.heap.size = gB6 at *
  clear hWx hgx
  have lB4 := lt_block B4.out
  have cB40 := cell_block B4.out 0
  have lB6 := lt_block B6.out
  have cB60 := cell_block B6.out 0
  obtain ⟨hu1, hu2⟩ := ChgOf.uniq CHB4.out CHB6.out
  subst hu1
  subst hu2
  clear CHB6
  cases b with
  | false =>
    go_wp2_with fail
    refine (equalTree_same _ _ r _ LU.out LW.out).mono ?_
    rintro e w6 ⟨rfl, hb⟩
    have H := hide (H.out.trans (hb.mono H.out.size))
    have V3 := hide (V3.out.keep hb)
    have LU := hide (LU.out.keep hb)
    have LW := hide (LW.out.keep hb)
    have B4 := hide (blk_own hb B4.out)
    have B6 := hide (blk_own hb B6.out)
    clear hb
    have lB4 := lt_block B4.out
    have cB40 := cell_block B4.out 0
    have lB6 := lt_block B6.out
    have cB60 := cell_block B6.out 0
    go_wp2_with fail
    refine (equalTree_same _ _ r _ LU.out LW.out).mono ?_
    rintro e w7 ⟨rfl, hb⟩
    have H := hide (H.out.trans (hb.mono H.out.size))
    have V3 := hide (V3.out.keep hb)
    have LU := hide (LU.out.keep hb)
    have LW := hide (LW.out.keep hb)
    have B4 := hide (blk_own hb B4.out)
    have B6 := hide (blk_own hb B6.out)
    clear hb
    have lB4 := lt_block B4.out
    have cB40 := cell_block B4.out 0
    have lB6 := lt_block B6.out
    have cB60 := cell_block B6.out 0
    go_wp2_with fail
    go_ret
    exact ⟨rfl, H.out⟩
  | true =>
    have D := hide (loadD CHB4.out)
    have hr30 := D.out.vr.n
    have hnr : (flatT r).length ≤ 1048576 := by omega
    go_wp2_with fail
    refine (equalTree_same _ _ r _ LU.out LW.out).mono ?_
    rintro e w8 ⟨rfl, hb⟩
    have H := hide (H.out.trans (hb.mono H.out.size))
    have V3 := hide (V3.out.keep hb)
    have LU := hide (LU.out.keep hb)
    have LW := hide (LW.out.keep hb)
    have B4 := hide (blk_own hb B4.out)
    have B6 := hide (blk_own hb B6.out)
    clear hb
    have lB4 := lt_block B4.out
    have cB40 := cell_block B4.out 0
    have lB6 := lt_block B6.out
    have cB60 := cell_block B6.out 0
    clear LW
    clear lB6 cB60
    clear B6
    have HL := hide LU.out
    obtain ⟨oa, oc, hoe, hol, hoc, hod⟩ := LU.out
    injection hoe with hoe1 hoe2 hoe3
    subst hoe1 hoe2 hoe3
    go_wp2_with fail
    go_loopg [8] r.length (fun gk s8 wr => Below w8.heap.size w8 wr ∧ ∃ k : Nat, 1 ≤ k ∧ r.length ≤ k + gk ∧ s8 = .int .i64 (k : Int))
    case atStart => exact ⟨Below.refl _ _, 1, by omega, by omega, rfl⟩
    case round =>
      obtain ⟨hbw, k, hk1, hk, rfl⟩ := hrel
      have HW := hide hbw
      have B4r := hide (blk_own hbw B4.out)
      have lB4r := lt_block B4r.out
      have cB4r := cell_block B4r.out 0
      by_cases hlt : k < r.length
      · have h0r : 0 < r.length := by omega
        obtain ⟨bo, off, rfl, hbb, hcell⟩ := hod.resolve_left (by rintro rfl; simp at hlt)
        obtain ⟨lv0, e0, hi0, -⟩ := hcell 0 h0r
        obtain ⟨lv1, e1, hi1, -⟩ := hcell k hlt
        have e0 := (hbw.cell hbb).trans e0
        have e1 := (hbw.cell hbb).trans e1
        rw [Nat.add_zero] at e0
        obtain ⟨ya, yc, rfl⟩ := itms_shape hi0
        obtain ⟨za, zc, rfl⟩ := itms_shape hi1
        have hbl := Nat.lt_of_lt_of_le hbb hbw.size
        obtain ⟨hs1, hs2⟩ := D.out.sz k hlt h0r
        have hs4 := (D.out.vr.len _ (List.getElem_mem h0r)).2
        clear hcell hod hi0 hi1
        generalize r[0].length = n0 at *
        generalize r[k].length = n1 at *
        have g0 := fun z : BW wr => bw_cell (p := ⟨bo, off, none⟩) hbl e0 z
        have g1 := fun z : BW wr => bw_cell (p := ⟨bo, off + k, none⟩) hbl e1 z
        have g2 := fun z : BW wr => bw_cell (p := ⟨gB4, 0, none⟩) lB4r cB4r z
        have h0i : (0 : Int) < (r.length : Int) := by omega
        have d0 : decide ((n0 : Int) - (n1 : Int) < 0) = false := decide_eq_false (by omega)
        have d1 : decide (1 < (n0 : Int) - (n1 : Int)) = false := decide_eq_false (by omega)
        go_wp2_with fail
        refine wp_region_bw (by kernel_rfl) (by kernel_rfl) ?_
        repeat (go_big_quiet_step (fail))
        refine wpQuiet_nil ?_
        rintro _ ⟨z, rfl⟩
        have H1 : Hid (Below w8.heap.size w8 z.v) := HW.out.trans (z.h.mono HW.out.size)
        clear g0 g1 g2
        go_wp2_with fail
        go_roundg (gk - 1)
        case measure => omega
        case rel => exact ⟨H1.out, k + 1, by omega, by omega, by go_num⟩
      · have hb := hbw
        have H := hide (H.out.trans (hb.mono H.out.size))
        have V3 := hide (V3.out.keep hb)
        have LU := hide (LU.out.keep hb)
        have B4 := hide (blk_own hb B4.out)
        clear hb hbw HW hod HL B4r lB4r cB4r
        have lB4 := lt_block B4.out
        have cB40 := cell_block B4.out 0
        go_wp2_with fail
        refine (validTree_any _ r _ LU.out hnr).mono ?_
        rintro e w9 ⟨q, rfl, hq, hb⟩
        have H := hide (H.out.trans (hb.mono H.out.size))
        have V3 := hide (V3.out.keep hb)
        have LU := hide (LU.out.keep hb)
        have B4 := hide (blk_own hb B4.out)
        obtain rfl : q = true := hq.2 D.out.vr
        clear hq hb
        have lB4 := lt_block B4.out
        have cB40 := cell_block B4.out 0
        go_wp2_with fail
        refine (treeItems_any _ r _ LU.out hnr).mono ?_
        rintro e w10 ⟨vl9, l9, rfl, hti, ho, hb⟩
        have H := hide (H.out.trans (hb.mono H.out.size))
        have V3 := hide (V3.out.keep hb)
        have LU := hide (LU.out.keep hb)
        have B4 := hide (blk_own hb B4.out)
        have e9 : l = l9 := ((hti.of D.out.vr).trans D.out.fl).symm
        subst e9
        have V9 := hide ho.itms
        obtain ⟨al9, cl9, rfl, -⟩ := own_slc ho
        clear hti ho hb
        have lB4 := lt_block B4.out
        have cB40 := cell_block B4.out 0
        go_wp2_with fail
        refine (equalItems_same _ _ l _ V9.out V3.out).mono ?_
        rintro e w11 ⟨rfl, hb⟩
        have H := hide (H.out.trans (hb.mono H.out.size))
        clear hb
        go_wp2_with fail
        go_ret
        exact ⟨rfl, H.out⟩
end Go.Proofs.Ytmlphdniiiijpaa
