/-
  The walk of FnValidTree.
-/
import Derived.Test.YtmlphdniiiijpaaTreeP
set_option linter.all false
namespace Go.Proofs.Ytmlphdniiiijpaa
open Go.RowKit
set_option maxHeartbeats 16000000 in
set_option maxRecDepth 100000 in
theorem fnValidTree_walk (v : Value) (w : World) (h : BytesAt w v) :
    Calls Try.prog 3 #[v] w fun e w' => e = .returned (.bool true) ∧ Below w.heap.size w w' := by
  have hB := hide h
  obtain ⟨a, len, cap0, rfl, hlc, hcap0, hr⟩ := h
  clear hr
  by_cases hlen : 1048576 < len
  · go_enter Try.func3, Try.ntmps3
    go_wp2_with fail
    go_ret
    exact ⟨rfl, Below.refl _ _⟩
  go_enter Try.func3, Try.ntmps3
  go_wp2_with fail
  refine (drawValidTree_any _ _ hB.out).mono ?_
  rintro e w1 ⟨tv, t, rfl, hlv, htl, hfl, hb⟩
  obtain ⟨ta, tn, tc, rfl⟩ := lvs_any hlv
  have H := hide hb
  have LT := hide hlv
  have hn : (flatT t).length ≤ 1048576 := by omega
  clear hlv hb hB hlen hlc hcap0
  have hb := below_box w1 (.cells #[.slice ta tn tc] 25)
  have H := hide (H.out.trans (hb.mono H.out.size))
  have LT := hide (LT.out.keep hb)
  have B3 := hide (blk_alloc w1 (.cells #[.slice ta tn tc] 25))
  clear hb
  go_wp2_with fail
  generalize hWx : w1.alloc (.cells #[.slice ta tn tc] 25) = w2 at *
  generalize hgx : w1.heap.size = gB3 at *
  clear hWx hgx
  have lB3 := lt_block B3.out
  have cB30 := cell_block B3.out 0
  refine (validTree_any _ t _ LT.out hn).mono ?_
  rintro e w3 ⟨q, rfl, hq, hb⟩
  have H := hide (H.out.trans (hb.mono H.out.size))
  have LT := hide (LT.out.keep hb)
  have B3 := hide (blk_own hb B3.out)
  have HQ := hide hq
  clear hq hb
  have lB3 := lt_block B3.out
  have cB30 := cell_block B3.out 0
  go_wp2_with fail
  refine (sValidTree_any _ t _ LT.out hn).mono ?_
  rintro e w4 ⟨q', rfl, hq, hb⟩
  have H := hide (H.out.trans (hb.mono H.out.size))
  have LT := hide (LT.out.keep hb)
  have B3 := hide (blk_own hb B3.out)
  have hqq : q' = q := by
    have h1 := HQ.out
    cases q <;> cases q' <;> simp_all
  subst hqq
  clear hq hb
  have lB3 := lt_block B3.out
  have cB30 := cell_block B3.out 0
  cases q' with
  | false =>
    go_wp2_with fail
    refine (sValidTree_any _ t _ LT.out hn).mono ?_
    rintro e w5 ⟨q', rfl, hq, hb⟩
    have H := hide (H.out.trans (hb.mono H.out.size))
    have LT := hide (LT.out.keep hb)
    have B3 := hide (blk_own hb B3.out)
    have hqq : q' = false := by
      have h1 := HQ.out
      cases q' <;> simp_all
    subst hqq
    clear hq hb
    have lB3 := lt_block B3.out
    have cB30 := cell_block B3.out 0
    go_wp2_with fail
    go_ret
    exact ⟨rfl, H.out⟩
  | true =>
    have HVT : Hid (VT t) := HQ.out.1 rfl
    have ht30 := HVT.out.n
    have HL := hide LT.out
    obtain ⟨oa, oc, hoe, hol, hoc, hod⟩ := LT.out
    injection hoe with hoe1 hoe2 hoe3
    subst hoe1 hoe2 hoe3
    go_wp2_with fail
    go_loopg [5, 6] t.length (fun gk s5 s6 wr => Below w4.heap.size w4 wr ∧ ∃ k : Nat, k + gk = t.length ∧ s6 = .int .i64 (k : Int) ∧ s5 = .int .i64 ((flatT (t.take k)).length : Int))
    case atStart => exact ⟨Below.refl _ _, 0, by omega, rfl, by simp [flatT]⟩
    case round =>
      obtain ⟨hbw, k, hk, rfl, rfl⟩ := hrel
      have HW := hide hbw
      have B3r := hide (blk_own hbw B3.out)
      have lB3r := lt_block B3r.out
      have cB3r := cell_block B3r.out 0
      have hfk := flatT_take_len t k
      by_cases hlt : k < t.length
      · obtain ⟨bo, off, rfl, hbb, hcell⟩ := hod.resolve_left (by rintro rfl; simp at hlt)
        obtain ⟨lv, e0, hi0, -⟩ := hcell k hlt
        have e0 := (hbw.cell hbb).trans e0
        obtain ⟨ya, yc, rfl⟩ := itms_shape hi0
        have HT := hide (flatT_takeS hlt)
        have hfk1 := flatT_take_len t (k + 1)
        have hyl := leaf_len hlt
        obtain ⟨N1, hN1⟩ : ∃ N, (flatT (t.take (k + 1))).length = N := ⟨_, rfl⟩
        obtain ⟨N0, hN0⟩ : ∃ N, (flatT (t.take k)).length = N := ⟨_, rfl⟩
        have HN1 := hide hN1
        rw [hN0, hN1] at HT
        rw [hN0] at hfk ⊢
        clear hN1 hN0 hcell hod hbw hi0 hfk1
        generalize t[k].length = m at *
        have HM := hide HT.out.symm
        go_wp2_with fail
        go_roundg (gk - 1)
        case measure => omega
        case rel => exact ⟨HW.out, k + 1, by omega, by go_num, by rw [HN1.out, ← HM.out]; go_num⟩
      · have hkl : k = t.length := by omega
        subst hkl
        rw [List.take_length]
        have hb := hbw
        have H := hide (H.out.trans (hb.mono H.out.size))
        have LT := hide (LT.out.keep hb)
        have B3 := hide (blk_own hb B3.out)
        clear hb hbw HW hod HL B3r lB3r cB3r hfk
        have lB3 := lt_block B3.out
        have cB30 := cell_block B3.out 0
        obtain ⟨N, hN⟩ : ∃ N, (flatT t).length = N := ⟨_, rfl⟩
        have HN := hide hN
        rw [hN] at ht30 ⊢
        clear hN
        go_wp2_with fail
        refine (treeItems_any _ t _ LT.out hn).mono ?_
        rintro e w6 ⟨vl9, l9, rfl, hti, ho, hb⟩
        have H := hide (H.out.trans (hb.mono H.out.size))
        have LT := hide (LT.out.keep hb)
        have B3 := hide (blk_own hb B3.out)
        have El9 : Hid (l9 = flatT t) := hti.of HVT.out
        have V9 := hide ho.itms
        obtain ⟨al9, cl9, rfl, -⟩ := own_slc ho
        clear hti ho hb
        have lB3 := lt_block B3.out
        have cB30 := cell_block B3.out 0
        go_wp2_with fail
        refine (treeLoad_all _ l9 _ V9.out).mono ?_
        rintro e w7 ⟨vB7, u, b, rfl, hch, hl, hb⟩
        have H := hide (H.out.trans (hb.mono H.out.size))
        have LT := hide (LT.out.keep hb)
        have V9 := hide (V9.out.keep hb)
        have B3 := hide (blk_own hb B3.out)
        have CHB7 := hide hch
        obtain ⟨aB7, nB7, cB7, rfl⟩ := ownL_any hl
        have LU := hide hl.lvs
        clear hch hl hb
        obtain ⟨hbb, hvu⟩ := load_all HVT.out (by have h := CHB7.out; rw [El9.out] at h; exact h)
        subst hbb
        have HVU := hide hvu
        have hnu : (flatT u).length ≤ 1048576 := by have := hvu.n; omega
        clear hvu CHB7
        have lB3 := lt_block B3.out
        have cB30 := cell_block B3.out 0
        have hb := below_box w7 (.cells #[.slice aB7 nB7 cB7] 25)
        have H := hide (H.out.trans (hb.mono H.out.size))
        have LT := hide (LT.out.keep hb)
        have V9 := hide (V9.out.keep hb)
        have LU := hide (LU.out.keep hb)
        have B3 := hide (blk_own hb B3.out)
        have B7 := hide (blk_alloc w7 (.cells #[.slice aB7 nB7 cB7] 25))
        clear hb
        go_wp2_with fail
        generalize hWx : w7.alloc (.cells #[.slice aB7 nB7 cB7] 25) = w8 at *
        generalize hgx : w7.heap.size = gB7 at *
        clear hWx hgx
        have lB3 := lt_block B3.out
        have cB30 := cell_block B3.out 0
        have lB7 := lt_block B7.out
        have cB70 := cell_block B7.out 0
        refine (validTree_any _ u _ LU.out hnu).mono ?_
        rintro e w9 ⟨q, rfl, hq, hb⟩
        have H := hide (H.out.trans (hb.mono H.out.size))
        have LT := hide (LT.out.keep hb)
        have V9 := hide (V9.out.keep hb)
        have LU := hide (LU.out.keep hb)
        have B3 := hide (blk_own hb B3.out)
        have B7 := hide (blk_own hb B7.out)
        obtain rfl : q = true := hq.2 HVU.out
        clear hq hb
        have lB3 := lt_block B3.out
        have cB30 := cell_block B3.out 0
        have lB7 := lt_block B7.out
        have cB70 := cell_block B7.out 0
        go_wp2_with fail
        refine (treeItems_any _ t _ LT.out hn).mono ?_
        rintro e w10 ⟨vl8, l8, rfl, hti, ho, hb⟩
        have H := hide (H.out.trans (hb.mono H.out.size))
        have LT := hide (LT.out.keep hb)
        have V9 := hide (V9.out.keep hb)
        have LU := hide (LU.out.keep hb)
        have B3 := hide (blk_own hb B3.out)
        have B7 := hide (blk_own hb B7.out)
        have HE8 : Hid (l8.length = N) := by unfold Hid; rw [hti.of HVT.out]; exact HN.out
        have dl : ((N : Int) == (l8.length : Int)) = true := by simp only [beq_iff_eq]; have := HE8.out; omega
        obtain ⟨al8, cl8, rfl, -⟩ := own_slc ho
        clear hti ho hb
        go_wp2_with fail
        go_ret
        exact ⟨rfl, H.out⟩
end Go.Proofs.Ytmlphdniiiijpaa
