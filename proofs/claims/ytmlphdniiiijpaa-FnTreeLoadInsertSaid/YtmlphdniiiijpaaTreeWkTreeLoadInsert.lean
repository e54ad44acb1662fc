/-
  The walk of FnTreeLoadInsert.
-/
import Derived.Test.YtmlphdniiiijpaaTreeP
set_option linter.all false
namespace Go.Proofs.Ytmlphdniiiijpaa
open Go.RowKit
set_option maxHeartbeats 16000000 in
set_option maxRecDepth 100000 in
theorem fnTreeLoadInsert_walk (v : Value) (w : World) (h : BytesAt w v) :
    Calls Try.prog 11 #[v] w fun e w' => e = .returned (.bool true) ∧ Below w.heap.size w w' := by
  have hB := hide h
  obtain ⟨a, len, cap0, rfl, hlc, hcap0, hr⟩ := h
  clear hr
  by_cases hlen : 1048576 < len
  · go_enter Try.func11, Try.ntmps11
    go_wp2_with fail
    go_ret
    exact ⟨rfl, Below.refl _ _⟩
  go_enter Try.func11, Try.ntmps11
  go_wp2_with fail
  refine (drawTreeLoad_any _ _ hB.out).mono ?_
  rintro e w1 ⟨lv, l, rfl, ho, hll, hb⟩
  have H := hide hb
  have V3 := hide ho.itms
  obtain ⟨la, lc, rfl, -⟩ := own_slc ho
  clear ho hb hB hlc hcap0
  go_wp2_with fail
  refine (treeLoad_all _ l _ V3.out).mono ?_
  rintro e w2 ⟨vB4, r0, b0, rfl, hch, hl, hb⟩
  have H := hide (H.out.trans (hb.mono H.out.size))
  have V3 := hide (V3.out.keep hb)
  have CHB4 := hide hch
  obtain ⟨aB4, nB4, cB4, rfl⟩ := ownL_any hl
  have LU := hide hl.lvs
  clear hch hl hb
  have hb := below_box w2 (.cells #[.slice aB4 nB4 cB4] 25)
  have H := hide (H.out.trans (hb.mono H.out.size))
  have V3 := hide (V3.out.keep hb)
  have LU := hide (LU.out.keep hb)
  have B4 := hide (blk_alloc w2 (.cells #[.slice aB4 nB4 cB4] 25))
  clear hb
  go_wp2_with fail
  generalize hWx : w2.alloc (.cells #[.slice aB4 nB4 cB4] 25) = w3 at *
  generalize hgx : w2.heap.size = gB4 at *
  clear hWx hgx
  have lB4 := lt_block B4.out
  have cB40 := cell_block B4.out 0
  refine (streeLoad_any _ l _ V3.out).mono ?_
  rintro e w4 ⟨vB6, r, b, rfl, hch, hl, hb⟩
  have H := hide (H.out.trans (hb.mono H.out.size))
  have V3 := hide (V3.out.keep hb)
  have LU := hide (LU.out.keep hb)
  have B4 := hide (blk_own hb B4.out)
  have CHB6 := hide hch
  obtain ⟨aB6, nB6, cB6, rfl⟩ := ownR_any hl
  have LW := hide hl.lvs
  clear hch hl hb
  have lB4 := lt_block B4.out
  have cB40 := cell_block B4.out 0
  have hb := below_box w4 (.cells #[.slice aB6 nB6 cB6] 25)
  have H := hide (H.out.trans (hb.mono H.out.size))
  have V3 := hide (V3.out.keep hb)
  have LU := hide (LU.out.keep hb)
  have LW := hide (LW.out.keep hb)
  have B4 := hide (blk_own hb B4.out)
  have B6 := hide (blk_alloc w4 (.cells #[.slice aB6 nB6 cB6] 25))
  clear hb
  go_wp2_with fail
  generalize hWx : w4.alloc (.cells #[.slice aB6 nB6 cB6] 25) = w5 at *
  generalize hgx : w4.heap.size = gB6 at *
  clear hWx hgx
  have lB4 := lt_block B4.out
  have cB40 := cell_block B4.out 0
  have lB6 := lt_block B6.out
  have cB60 := cell_block B6.out 0
  obtain ⟨hu1, hu2⟩ := ChgOf.uniq CHB4.out CHB6.out
  subst hu1
  subst hu2
  clear CHB6
  cases b with
  | false =>
    go_wp2_with fail
    refine (equalTree_same _ _ r _ LU.out LW.out).mono ?_
    rintro e w6 ⟨rfl, hb⟩
    have H := hide (H.out.trans (hb.mono H.out.size))
    have V3 := hide (V3.out.keep hb)
    have LU := hide (LU.out.keep hb)
    have LW := hide (LW.out.keep hb)
    have B4 := hide (blk_own hb B4.out)
    have B6 := hide (blk_own hb B6.out)
    clear hb
    have lB4 := lt_block B4.out
    have cB40 := cell_block B4.out 0
    have lB6 := lt_block B6.out
    have cB60 := cell_block B6.out 0
    go_wp2_with fail
    refine (equalTree_same _ _ r _ LU.out LW.out).mono ?_
    rintro e w7 ⟨rfl, hb⟩
    have H := hide (H.out.trans (hb.mono H.out.size))
    have V3 := hide (V3.out.keep hb)
    have LU := hide (LU.out.keep hb)
    have LW := hide (LW.out.keep hb)
    have B4 := hide (blk_own hb B4.out)
    have B6 := hide (blk_own hb B6.out)
    clear hb
    have lB4 := lt_block B4.out
    have cB40 := cell_block B4.out 0
    have lB6 := lt_block B6.out
    have cB60 := cell_block B6.out 0
    go_wp2_with fail
    go_ret
    exact ⟨rfl, H.out⟩
  | true =>
    have D := hide (loadD CHB4.out)
    have HORD := hide (CHB4.out.yes.1.1)
    have hr30 := D.out.vr.n
    have hnr : (flatT r).length ≤ 1048576 := by omega
    have hl30 := D.out.n
    go_wp2_with fail
    refine (equalTree_same _ _ r _ LU.out LW.out).mono ?_
    rintro e w8 ⟨rfl, hb⟩
    have H := hide (H.out.trans (hb.mono H.out.size))
    have V3 := hide (V3.out.keep hb)
    have LU := hide (LU.out.keep hb)
    have LW := hide (LW.out.keep hb)
    have B4 := hide (blk_own hb B4.out)
    have B6 := hide (blk_own hb B6.out)
    clear hb
    have lB4 := lt_block B4.out
    have cB40 := cell_block B4.out 0
    have lB6 := lt_block B6.out
    have cB60 := cell_block B6.out 0
    clear LW
    clear lB6 cB60
    clear B6
    have HV := hide V3.out
    obtain ⟨oa, oc, hoe, hol, hoc, hod⟩ := V3.out
    injection hoe with hoe1 hoe2 hoe3
    subst hoe1 hoe3
    clear hoe2
    have HZ8 := hide (blk_alloc w8 (.cells #[.slice none 0 0] 25))
    have HBZ := hide (below_box w8 (.cells #[.slice none 0 0] 25))
    have hlen' : (len : Int) ≤ 1048576 := by omega
    go_wp2_with fail
    go_loopg [9] l.length (fun gk s9 wr => Below w8.heap.size w8 wr ∧ ∃ (k : Nat) (uv : Value) (u : List (List Itm)), k + gk = l.length ∧ s9 = .int .i64 (k : Int) ∧ wr.heap[w8.heap.size]? = some (.cells #[uv] 25 (0, 0)) ∧ OwnR w8.heap.size wr uv u ∧ GrowD l len k u)
    case atStart => exact ⟨HBZ.out, 0, _, [], by omega, rfl, HZ8.out, ownR_none _ _, growD_0 l len⟩
    case round =>
      clear HBZ HZ8
      obtain ⟨hbw, k, uv, u, hk, rfl, hb8, hou, hgd⟩ := hrel
      have HW := hide hbw
      have B8 := hide hb8
      have OU := hide hou
      have G := hide hgd
      have hu30 := hgd.vt.n
      have hnu : (flatT u).length ≤ 1048576 := by omega
      obtain ⟨ua, un, uc, rfl⟩ := ownR_any hou
      have lB8 := lt_block hb8
      have cB8 := cell_block hb8 0
      have fB8 := froz_block hb8 0
      clear hb8 hou hgd
      by_cases hlt : k < l.length
      · obtain ⟨bo, off, rfl, hbb, hcell⟩ := hod.resolve_left (by rintro rfl; simp at hlt)
        obtain ⟨j, hj⟩ : ∃ j, j = (7 * k + len) % l.length := ⟨_, rfl⟩
        have hjl : j < l.length := by rw [hj]; exact Nat.mod_lt _ (by omega)
        have HGS : Hid (∀ s b, ChgOf (insOk u l[j]) (insT u l[j]) s b → (b = true → GrowD l len (k + 1) s) ∧ (b = false → GrowD l len (k + 1) u)) := by
          subst hj
          exact fun s b hc => growD_s G.out HORD.out hl30 hlt hjl hc
        have e3 : (7 * (k : Int) + (len : Int)).tmod (l.length : Int) = (j : Int) := by rw [hj]; rfl
        have E := hide ((hcell j hjl).keep hbw)
        obtain ⟨e0, e1⟩ := E.out
        have hbl := Nat.lt_of_lt_of_le hbb hbw.size
        clear hcell hod hbw hj
        generalize l[j] = y at *
        have hjl' : (j : Int) < (l.length : Int) := by omega
        have hj0 : (0 : Int) ≤ (j : Int) := by omega
        have hl0 : ((l.length : Int) == 0) = false := beq_false_of_ne (by omega)
        have hne : ¬ (l = []) := by rintro rfl; simp at hlt
        have hie : l.isEmpty = false := by cases l with
          | nil => exact absurd rfl hne
          | cons _ _ => rfl
        have hln : (l.length == 0) = false := beq_false_of_ne (by omega)
        have HDW : Hid (Below wr.heap.size wr wr.drew) := (Below.refl _ _).drew
        have HDA : Hid (Below wr.heap.size wr (wr.alloc (.cells #[.slice none 0 0] 25)).drew) := (below_box wr _).drew
        have HNA : Hid ((wr.alloc (.cells #[.slice none 0 0] 25)).drew.heap[wr.heap.size]? = some (.cells #[.slice none 0 0] 25)) := blk_drew0 (blk_alloc wr _)
        have LUZ := hide (fun z (hz : Below wr.heap.size wr z) => (OU.out.keep hz).lvs)
        have HS : Hid (∀ z, Below wr.heap.size wr z → (z.cell? ⟨w8.heap.size, 0, none⟩ = some (.slice ua un uc) ∧ z.cell? ⟨bo, off + j * 2, none⟩ = some (.int .i64 y.k) ∧ z.cell? ⟨bo, off + j * 2 + 1, none⟩ = some (.int .i64 y.r))) := fun z hz => ⟨(hz.cell (p := ⟨w8.heap.size, 0, none⟩) lB8).trans cB8, (hz.cell (p := ⟨bo, off + j * 2, none⟩) hbl).trans e0, (hz.cell (p := ⟨bo, off + j * 2 + 1, none⟩) hbl).trans e1⟩
        have HS2 : Hid (∀ z k u, Below wr.heap.size wr z → wr.heap.size ≤ k → ((z.setCell ⟨k, 0, none⟩ u).cell? ⟨w8.heap.size, 0, none⟩ = some (.slice ua un uc) ∧ (z.setCell ⟨k, 0, none⟩ u).cell? ⟨bo, off + j * 2, none⟩ = some (.int .i64 y.k) ∧ (z.setCell ⟨k, 0, none⟩ u).cell? ⟨bo, off + j * 2 + 1, none⟩ = some (.int .i64 y.r))) := fun z k u hz hk => HS.out _ (hz.setCell hk u)
        have w1 : IntKind.i64.wrap (7 * (k : Int)) = 7 * (k : Int) := IntWalk.i64_in _ (by omega)
        have w2 : IntKind.i64.wrap (7 * (k : Int) + (len : Int)) = 7 * (k : Int) + (len : Int) := IntWalk.i64_in _ (by omega)
        go_wp2_with fail
        go_cut [10, 11] (fun s10 s11 wx => ∃ (g10 : Nat) (b : Bool) (rv : Value) (s : List (List Itm)), s10 = .pointer (some ⟨g10, 0, none⟩) ∧ s11 = .bool b ∧ wx.heap[g10]? = some (.cells #[rv] 25 (0, 0)) ∧ ChgOf (insOk u y) (insT u y) s b ∧ OwnR wr.heap.size wx rv s ∧ Below wr.heap.size wr wx)
        case first =>
          go_region_held3 (fun z => (z.cell? ⟨w8.heap.size, 0, none⟩ = some (.slice ua un uc) ∧ z.cell? ⟨bo, off + j * 2, none⟩ = some (.int .i64 y.k) ∧ z.cell? ⟨bo, off + j * 2 + 1, none⟩ = some (.int .i64 y.r))) (first | exact HS.out _ (Below.refl _ _) | exact HS.out _ HDW.out | exact HS.out _ HDA.out | exact HS.out _ HBd.out | exact HS.out _ (HBd.out.alloc HBd.out.size _) | exact HS2.out _ _ _ HBd.out (by first | exact Nat.le_refl _ | exact HBd.out.size)) (first
            | (go_at_call 36; (with_reducible refine (treeInsert_any _ u y _ (LUZ.out _ (by first | exact HDW.out | exact HDA.out)) hnu).mono ?_); rintro e wd ⟨rv, s, b, rfl, hch, hl, hb⟩; have HBd : Hid (Below wr.heap.size wr wd) := (by first | exact HDW.out.trans (hb.mono HDW.out.size) | exact HDA.out.trans (hb.mono HDA.out.size)); (first | (have NB := hide (blk_own hb HNA.out); have D0 := cell_block NB.out 0; have DF := froz_block NB.out 0) | skip); have HCH := hide hch; have HOc : Hid (OwnR wr.heap.size wd rv s) := (by first | exact hl.toR.mono HDW.out.size | exact hl.toR.mono HDA.out.size); obtain ⟨ca, cn, cc, rfl⟩ := ownL_any hl; clear hch hl hb)
            | fail)
          all_goals
            clear HS HS2
            go_wp2_with fail
            go_meet
            first
            | exact ⟨wd.heap.size, b, _, s, rfl, rfl, blk_alloc wd _, HCH.out, HOc.out.keep (below_box wd _), HBd.out.alloc HBd.out.size _⟩
            | exact ⟨wr.heap.size, b, _, s, rfl, rfl, set_block NB.out 0 _, HCH.out, HOc.out.boxT NB.out, HBd.out.setCell (Nat.le_refl _) _⟩
        case rest =>
          obtain ⟨g10, b, rv, s, rfl, rfl, hb10, hch, hos, hbx⟩ := hcut
          obtain ⟨hg1, hg2⟩ := HGS.out s b hch
          have B10 := hide hb10
          have HOS := hide hos
          have B8c := hide (blk_own hbx B8.out)
          have OUc := hide (OU.out.keep hbx)
          have HWc := hide (HW.out.trans (hbx.mono HW.out.size))
          have hws := HW.out.size
          obtain ⟨ra, rn, rc, rfl⟩ := ownR_any hos
          have d0 := cell_block hb10 0
          have d1 := cell_block B8c.out 0
          have d2 := froz_block B8c.out 0
          clear hb10 hch hos hbx HS HS2 e0 e1 e3 w1 w2 cB8 fB8
          cases b with
          | true =>
            have HG := hide (hg1 rfl)
            have BN := hide (set_block B8c.out 0 (.slice ra rn rc))
            have HON := hide ((HOS.out.mono hws).boxT (u := .slice ra rn rc) B8c.out)
            have HWN : Hid (Below w8.heap.size w8 (wc.setCell ⟨w8.heap.size, 0, none⟩ (.slice ra rn rc))) := HWc.out.setCell (Nat.le_refl _) _
            clear hg1 hg2
            go_wp2_with fail
            go_roundg (gk - 1)
            case measure => omega
            case rel => exact ⟨HWN.out, k + 1, _, s, by omega, by go_num, BN.out, HON.out, HG.out⟩
          | false =>
            have HG := hide (hg2 rfl)
            clear hg1 hg2
            go_wp2_with fail
            go_roundg (gk - 1)
            case measure => omega
            case rel => exact ⟨HWc.out, k + 1, _, u, by omega, by go_num, B8c.out, OUc.out, HG.out⟩
      · have hkl : k = l.length := by omega
        subst hkl
        have hb := hbw
        have H := hide (H.out.trans (hb.mono H.out.size))
        have V3 := hide (V3.out.keep hb)
        have LU := hide (LU.out.keep hb)
        have B4 := hide (blk_own hb B4.out)
        have LN := hide OU.out.lvs
        clear hb hbw HW hod HV OU cB8 fB8
        generalize w8.heap.size = gB8 at *
        have lB4 := lt_block B4.out
        have cB40 := cell_block B4.out 0
        have lB8 := lt_block B8.out
        have cB80 := cell_block B8.out 0
        obtain ⟨m7, hm7⟩ : ∃ m, m = l.length % 7 := ⟨_, rfl⟩
        have e7 : (l.length : Int).tmod 7 = (m7 : Int) := by rw [hm7]; rfl
        have e7' : (l.length : Int) % 7 = (m7 : Int) := by rw [hm7]; rfl
        have HM7 := hide hm7
        clear hm7
        by_cases h7 : m7 = 0
        · have d7 : ((m7 : Int) == 0) = true := by rw [h7]; rfl
          have d7' : (m7 == 0) = true := by rw [h7]; rfl
          clear h7
          go_wp2_with fail
          refine wp_region_bw (by kernel_rfl) (by kernel_rfl) ?_
          repeat (go_big_quiet_step (fail))
          refine wpQuiet_nil ?_
          rintro _ ⟨z, rfl⟩
          have H := hide (H.out.trans (z.h.mono H.out.size))
          go_wp2_with fail
          go_ret
          exact ⟨rfl, H.out⟩
        · have d7 : ((m7 : Int) == 0) = false := beq_false_of_ne (by omega)
          have d7' : (m7 == 0) = false := beq_false_of_ne h7
          have HEQ : Hid (flatT u = l) := growD_end G.out HORD.out hl30 (by rw [← HM7.out]; exact h7)
          clear h7
          have HD0 : Hid (Below wr.heap.size wr wr.drew) := (Below.refl _ _).drew
          have HS : Hid (∀ z, Below wr.heap.size wr z → (z.cell? ⟨gB8, 0, none⟩ = some (.slice ua un uc) ∧ z.cell? ⟨gB4, 0, none⟩ = some (.slice aB4 nB4 cB4))) := fun z hz => ⟨(hz.cell (p := ⟨gB8, 0, none⟩) (lt_block B8.out)).trans (cell_block B8.out 0), (hz.cell (p := ⟨gB4, 0, none⟩) (lt_block B4.out)).trans (cell_block B4.out 0)⟩
          go_wp2_with fail
          go_region_held3 (fun z => z.cell? ⟨gB8, 0, none⟩ = some (.slice ua un uc) ∧ z.cell? ⟨gB4, 0, none⟩ = some (.slice aB4 nB4 cB4)) (first | exact HS.out _ (Below.refl _ _) | exact HS.out _ HD0.out | exact HS.out _ HQw9.out | exact HS.out _ HQw10.out | exact HS.out _ HQw11.out) (first
            | (go_at_call 17; (with_reducible refine (treeItems_any _ u _ (LN.out.keep HD0.out) hnu).mono ?_); rintro e w9 ⟨vx, lx, rfl, hti, ho, hb⟩; have HQw9 : Hid (Below wr.heap.size wr w9) := HD0.out.trans (hb.mono HD0.out.size); have ex : l = lx := ((hti.of G.out.vt).trans HEQ.out).symm; subst ex; have VX := hide ho.itms; obtain ⟨ax, cx, rfl, -⟩ := own_slc ho; clear hti ho; clear hb)
            | (go_at_call 17; (with_reducible refine (treeItems_any _ r _ (LU.out.keep HQw9.out) hnr).mono ?_); rintro e w10 ⟨vy, ly, rfl, hti, ho, hb⟩; have HQw10 : Hid (Below wr.heap.size wr w10) := HQw9.out.trans (hb.mono HQw9.out.size); have ey : l = ly := ((hti.of D.out.vr).trans D.out.fl).symm; subst ey; have VY := hide ho.itms; have VX := hide (VX.out.keep hb); obtain ⟨ay, cy, rfl, -⟩ := own_slc ho; clear hti ho; clear hb)
            | (go_at_call 20; (with_reducible refine (equalItems_same _ _ l _ VX.out VY.out).mono ?_); rintro e w11 ⟨rfl, hb⟩; have HQw11 : Hid (Below wr.heap.size wr w11) := HQw10.out.trans (hb.mono HQw10.out.size); clear hb)
            | fail)
          have hb := HQw11.out
          have H := hide (H.out.trans (hb.mono H.out.size))
          have V3 := hide (V3.out.keep hb)
          have LU := hide (LU.out.keep hb)
          have LN := hide (LN.out.keep hb)
          have B4 := hide (blk_own hb B4.out)
          have B8 := hide (blk_own hb B8.out)
          clear hb HS
          have lB4 := lt_block B4.out
          have cB40 := cell_block B4.out 0
          have lB8 := lt_block B8.out
          have cB80 := cell_block B8.out 0
          go_wp2_with fail
          go_ret
          exact ⟨rfl, H.out⟩
end Go.Proofs.Ytmlphdniiiijpaa
