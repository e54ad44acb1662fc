/-
  The walk of FnTreeRange.
-/
import Derived.Test.YtmlphdniiiijpaaTreeP
set_option linter.all false
namespace Go.Proofs.Ytmlphdniiiijpaa
open Go.RowKit
set_option maxHeartbeats 16000000 in
set_option maxRecDepth 100000 in
theorem fnTreeRange_walk (v : Value) (w : World) (h : BytesAt w v) :
    Calls Try.prog 4 #[v] w fun e w' => e = .returned (.bool true) ∧ Below w.heap.size w w' := by
  have hB := hide h
  obtain ⟨a, len, cap0, rfl, hlc, hcap0, hr⟩ := h
  clear hr
  by_cases hlen : 1048576 < len
  · go_enter Try.func4, Try.ntmps4
    go_wp2_with fail
    go_ret
    exact ⟨rfl, Below.refl _ _⟩
  go_enter Try.func4, Try.ntmps4
  go_wp2_with fail
  refine (drawTreeRange_any _ _ hB.out).mono ?_
  rintro e w1 ⟨tv, t, lo, hi, rfl, ⟨hlo0, hlo1, hhi0, hhi1⟩, hlv, htl, hfl, hb⟩
  obtain ⟨ta, tn, tc, rfl⟩ := lvs_any hlv
  have H := hide hb
  have LT := hide hlv
  have hn : (flatT t).length ≤ 1048576 := by omega
  clear hlv hb hB hlen hlc hcap0
  have hb := below_box w1 (.cells #[.slice ta tn tc] 25)
  have H := hide (H.out.trans (hb.mono H.out.size))
  have LT := hide (LT.out.keep hb)
  have B3 := hide (blk_alloc w1 (.cells #[.slice ta tn tc] 25))
  clear hb
  go_wp2_with fail
  generalize hWx : w1.alloc (.cells #[.slice ta tn tc] 25) = w2 at *
  generalize hgx : w1.heap.size = gB3 at *
  clear hWx hgx
  have lB3 := lt_block B3.out
  have cB30 := cell_block B3.out 0
  refine (treeRange_any _ t lo hi _ LT.out hn).mono ?_
  rintro e w3 ⟨vl6, l6, rfl, hrg, ho, hb⟩
  have H := hide (H.out.trans (hb.mono H.out.size))
  have LT := hide (LT.out.keep hb)
  have B3 := hide (blk_own hb B3.out)
  have R6 := hide hrg
  have V6 := hide ho.itms
  obtain ⟨al6, cl6, rfl, -⟩ := own_slc ho
  clear hrg ho hb
  have lB3 := lt_block B3.out
  have cB30 := cell_block B3.out 0
  go_wp2_with fail
  refine (streeRange_any _ t lo hi _ LT.out hn).mono ?_
  rintro e w4 ⟨vl5, l5, rfl, hrg, ho, hb⟩
  have H := hide (H.out.trans (hb.mono H.out.size))
  have LT := hide (LT.out.keep hb)
  have V6 := hide (V6.out.keep hb)
  have B3 := hide (blk_own hb B3.out)
  have e5 : l6 = l5 := (R6.out.uniq hrg).symm
  subst e5
  have V5 := hide ho.itms
  obtain ⟨al5, cl5, rfl, -⟩ := own_slc ho
  clear hrg ho hb
  have lB3 := lt_block B3.out
  have cB30 := cell_block B3.out 0
  go_wp2_with fail
  refine (equalItems_same _ _ l6 _ V6.out V5.out).mono ?_
  rintro e w5 ⟨rfl, hb⟩
  have H := hide (H.out.trans (hb.mono H.out.size))
  have LT := hide (LT.out.keep hb)
  have V6 := hide (V6.out.keep hb)
  have B3 := hide (blk_own hb B3.out)
  clear hb V5
  have lB3 := lt_block B3.out
  have cB30 := cell_block B3.out 0
  by_cases hlh : hi < lo
  · have dlh : decide (hi < lo) = true := decide_eq_true hlh
    go_wp2_with fail
    refine (streeRange_any _ t lo hi _ LT.out hn).mono ?_
    rintro e w6 ⟨vl5, l5, rfl, hrg, ho, hb⟩
    have H := hide (H.out.trans (hb.mono H.out.size))
    have LT := hide (LT.out.keep hb)
    have V6 := hide (V6.out.keep hb)
    have B3 := hide (blk_own hb B3.out)
    have e5 : l6 = l5 := (R6.out.uniq hrg).symm
    subst e5
    have V5 := hide ho.itms
    obtain ⟨al5, cl5, rfl, -⟩ := own_slc ho
    clear hrg ho hb
    have lB3 := lt_block B3.out
    have cB30 := cell_block B3.out 0
    go_wp2_with fail
    refine (equalItems_same _ _ l6 _ V6.out V5.out).mono ?_
    rintro e w7 ⟨rfl, hb⟩
    have H := hide (H.out.trans (hb.mono H.out.size))
    have LT := hide (LT.out.keep hb)
    have V6 := hide (V6.out.keep hb)
    have B3 := hide (blk_own hb B3.out)
    clear hb V5
    have lB3 := lt_block B3.out
    have cB30 := cell_block B3.out 0
    go_wp2_with fail
    go_ret
    exact ⟨rfl, H.out⟩
  have dlh : decide (hi < lo) = false := decide_eq_false hlh
  obtain ⟨m, hm⟩ : ∃ m, (lo + hi).tdiv 2 = m := ⟨_, rfl⟩
  have hm1 : lo ≤ m + 1 ∧ m ≤ hi ∧ -1 ≤ m := by
    rcases Int.lt_or_le (lo + hi) 0 with c | c
    · have : lo + hi = -1 ∨ lo + hi = -2 := by omega
      rcases this with c | c
      · rw [c] at hm; have : m = 0 := by rw [← hm]; rfl
        omega
      · rw [c] at hm; have : m = -1 := by rw [← hm]; rfl
        omega
    · rw [Int.tdiv_eq_ediv_of_nonneg c] at hm; omega
  obtain ⟨hma, hmb, hmc⟩ := hm1
  have LTZ := hide (fun z (hz : Below w5.heap.size w5 z) => LT.out.keep hz)
  have HDW : Hid (Below w5.heap.size w5 w5.drew) := (Below.refl _ _).drew
  have HDA : Hid (Below w5.heap.size w5 (w5.alloc (.cells #[] 38)).drew) := (below_box w5 _).drew
  have HNA : Hid ((w5.alloc (.cells #[] 38)).drew.heap[w5.heap.size]? = some (.cells #[] 38)) := blk_drew0 (blk_alloc w5 _)
  have HS : Hid (∀ z, Below w5.heap.size w5 z → z.cell? ⟨gB3, 0, none⟩ = some (.slice ta tn tc)) := fun z hz => (hz.cell (p := ⟨gB3, 0, none⟩) (lt_block B3.out)).trans (cell_block B3.out 0)
  have HSA : Hid (∀ z o, Below w5.heap.size w5 z → (z.alloc o).cell? ⟨gB3, 0, none⟩ = some (.slice ta tn tc)) := fun z o hz => HS.out _ (hz.alloc hz.size o)
  have hll : ∀ l, RngOf t lo m l → l.length ≤ 40 := fun l hl => by
    by_cases c : VT t
    · rw [hl.1 c]; exact Nat.le_trans (List.length_filter_le _ _) hfl
    · rw [hl.2 c]; simp
  have HLL := hide hll
  have hll : ∀ l, RngOf t (m + 1) hi l → l.length ≤ 40 := fun l hl => by
    by_cases c : VT t
    · rw [hl.1 c]; exact Nat.le_trans (List.length_filter_le _ _) hfl
    · rw [hl.2 c]; simp
  have HLM := hide hll
  clear hll
  have ew : IntKind.i64.wrap (m + 1) = m + 1 := IntWalk.i64_in _ (by omega)
  go_wp2_with fail
  go_cut [8] (fun s8 wx => ∃ ua un uc, s8 = .slice ua un uc ∧ Itms wx (.slice ua un uc) l6 ∧ Below w5.heap.size w5 wx)
  case first =>
    go_region_held3 (fun z => z.cell? ⟨gB3, 0, none⟩ = some (.slice ta tn tc)) (first | exact HS.out _ (Below.refl _ _) | exact HS.out _ HDW.out | exact HS.out _ HDA.out | exact HS.out _ HQ1.out | exact HSA.out _ _ HQ1.out | exact HS.out _ HA1.out | exact HS.out _ HQ2.out | exact HSA.out _ _ HQ2.out | exact HS.out _ HA2.out) (first
      | (go_at_call 19; (with_reducible refine (treeRange_any _ t lo m _ (LTZ.out _ (by first | exact HDW.out | exact HDA.out)) hn).mono ?_); rintro e q1 ⟨vl1, l1, rfl, hrg, ho, hb⟩; have HQ1 : Hid (Below w5.heap.size w5 q1) := (by first | exact HDW.out.trans (hb.mono HDW.out.size) | exact HDA.out.trans (hb.mono HDA.out.size)); (first | (have NL := hide (blk_own hb HNA.out)) | skip); have R1 := hide hrg; have h1 := HLL.out _ hrg; have V1 := hide ho.itms; have N1 := hide (nilOk_own ho); obtain ⟨al1, cl1, rfl, -⟩ := own_slc ho; clear hrg ho hb)
      | ((refine step_appI _ (by rfl) (.tmp 45) (.tmp 49) (by rfl) w5.heap.size _ [] (by rfl) (own_nilLit NL.out (Nat.le_refl _)) (by simp) _ l1 (by rfl) V1.out N1.out (by omega) HQ1.out.size ?_); intro va a1 hoa hga; have HA1 : Hid (Below w5.heap.size w5 a1) := HQ1.out.grown hga HQ1.out.size (fun k hk => (World.ownsRow.lt (own_nilLit NL.out (Nat.le_refl _)) k hk).1); have OA := hide hoa; obtain ⟨aa, na, ca, rfl⟩ := ownI_any hoa; clear hoa hga)
      | ((refine step_appI _ (by rfl) (.tmp 45) (.tmp 49) (by rfl) w5.heap.size _ [] (by rfl) (own_lit_at rfl HQ1.out.size) (by simp) _ l1 (by rfl) (V1.out.keep (below_box q1 _)) N1.out (by omega) (HQ1.out.alloc HQ1.out.size _).size ?_); intro va a1 hoa hga; have HA1 : Hid (Below w5.heap.size w5 a1) := (HQ1.out.alloc HQ1.out.size (.cells #[] 38)).grown hga (HQ1.out.alloc HQ1.out.size (.cells #[] 38)).size (fun k hk => (World.ownsRow.lt (own_lit_at (b := q1.heap.size) (B := w5.heap.size) (e := 38) (size := 2) rfl HQ1.out.size) k hk).1); have OA := hide hoa; obtain ⟨aa, na, ca, rfl⟩ := ownI_any hoa; clear hoa hga)
      | (go_at_call 19; (with_reducible refine (treeRange_any _ t (m + 1) hi _ (LTZ.out _ HA1.out) hn).mono ?_); rintro e q2 ⟨vl2, l2, rfl, hrg, ho, hb⟩; have HQ2 : Hid (Below w5.heap.size w5 q2) := HA1.out.trans (hb.mono HA1.out.size); have OA := hide (OA.out.keep hb); have R2 := hide hrg; have h2 := HLM.out _ hrg; have V2 := hide ho.itms; have N2 := hide (nilOk_own ho); obtain ⟨al2, cl2, rfl, -⟩ := own_slc ho; clear hrg ho hb)
      | ((refine step_appI _ (by rfl) (.tmp 50) (.tmp 55) (by rfl) w5.heap.size _ ([] ++ l1) (by rfl) OA.out (by simp; omega) _ l2 (by rfl) V2.out N2.out (by omega) HQ2.out.size ?_); intro vb a2 hob hgb; have HA2 : Hid (Below w5.heap.size w5 a2) := HQ2.out.grown hgb HQ2.out.size (fun k hk => (World.ownsRow.lt OA.out k hk).1); have OB := hide hob; obtain ⟨ab, nb, cb, rfl⟩ := ownI_any hob; clear hob hgb)
      | fail)
    all_goals
      have HE : Hid ([] ++ l1 ++ l2 = l6) := rng_parts hma hmb R6.out R1.out R2.out
      clear HS HSA
      go_wp2_with fail
      go_meet
      exact ⟨_, _, _, rfl, by rw [← HE.out]; exact OB.out.itms, HA2.out⟩
  case rest =>
    obtain ⟨ua, un, uc, rfl, hiu, hb⟩ := hcut
    obtain ⟨W8, hW8⟩ : ∃ W, W = wc := ⟨_, rfl⟩
    rw [← hW8] at hiu hb ⊢
    clear hW8 ew HS HSA HDW HDA HNA LTZ HLL HLM
    have VB := hide hiu
    clear hiu
    have H := hide (H.out.trans (hb.mono H.out.size))
    have LT := hide (LT.out.keep hb)
    have V6 := hide (V6.out.keep hb)
    have B3 := hide (blk_own hb B3.out)
    clear hb
    have lB3 := lt_block B3.out
    have cB30 := cell_block B3.out 0
    obtain ⟨ub, ud, hue, -⟩ := VB.out
    injection hue with hue1 hue2 hue3
    subst hue1 hue2 hue3
    have HIN : Hid (∀ y ∈ l6, lo ≤ y.k ∧ y.k ≤ hi) := fun y hy => rng_in R6.out hy
    have HV := hide V6.out
    obtain ⟨oa, oc, hoe, hol, hoc, hod⟩ := V6.out
    injection hoe with hoe1 hoe2 hoe3
    subst hoe1 hoe3
    clear hoe2
    go_wp2_with fail
    go_loopg [9] l6.length (fun gk s9 wr => Below W8.heap.size W8 wr ∧ ∃ k : Nat, k + gk = l6.length ∧ s9 = .int .i64 (k : Int))
    case atStart => exact ⟨Below.refl _ _, 0, by omega, rfl⟩
    case round =>
      obtain ⟨hbw, k, hk, rfl⟩ := hrel
      have HW := hide hbw
      by_cases hlt : k < l6.length
      · obtain ⟨bo, off, rfl, hbb, hcell⟩ := hod.resolve_left (by rintro rfl; simp at hlt)
        obtain ⟨e0, e1⟩ := (hcell k hlt).keep hbw
        obtain ⟨hy1, hy2⟩ := HIN.out _ (List.getElem_mem hlt)
        clear hcell hod hbw
        generalize l6[k] = y at *
        have d1 : decide (y.k < lo) = false := decide_eq_false (by omega)
        have d2 : decide (hi < y.k) = false := decide_eq_false (by omega)
        go_wp2_with fail
        go_roundg (gk - 1)
        case measure => omega
        case rel => exact ⟨HW.out, k + 1, by omega, by go_num⟩
      · have hkl : k = l6.length := by omega
        subst hkl
        have hb := hbw
        have H := hide (H.out.trans (hb.mono H.out.size))
        have LT := hide (LT.out.keep hb)
        have V6 := hide (V6.out.keep hb)
        have VB := hide (VB.out.keep hb)
        have B3 := hide (blk_own hb B3.out)
        clear hb hbw HW hod HV
        have lB3 := lt_block B3.out
        have cB30 := cell_block B3.out 0
        have HD0 : Hid (Below wr.heap.size wr wr.drew) := (Below.refl _ _).drew
        have HS : Hid (∀ z, Below wr.heap.size wr z → (z.cell? ⟨gB3, 0, none⟩ = some (.slice ta tn tc))) := fun z hz => (hz.cell (p := ⟨gB3, 0, none⟩) (lt_block B3.out)).trans (cell_block B3.out 0)
        go_wp2_with fail
        go_region_held3 (fun z => z.cell? ⟨gB3, 0, none⟩ = some (.slice ta tn tc)) (first | exact HS.out _ (Below.refl _ _) | exact HS.out _ HD0.out | exact HS.out _ HQw8.out | exact HS.out _ HQw9.out | exact HS.out _ HQw10.out | exact HS.out _ HQw11.out) (first
          | (go_at_call 20; (with_reducible refine (equalItems_same _ _ l6 _ (VB.out.keep HD0.out) (V6.out.keep HD0.out)).mono ?_); rintro e w8 ⟨rfl, hb⟩; have HQw8 : Hid (Below wr.heap.size wr w8) := HD0.out.trans (hb.mono HD0.out.size); clear hb)
          | (go_at_call 19; (with_reducible refine (treeRange_any _ t 0 999999 _ (LT.out.keep HQw8.out) hn).mono ?_); rintro e w9 ⟨vx, lx, rfl, hrg, ho, hb⟩; have HQw9 : Hid (Below wr.heap.size wr w9) := HQw8.out.trans (hb.mono HQw8.out.size); have RX := hide hrg; have VX := hide ho.itms; obtain ⟨ax, cx, rfl, -⟩ := own_slc ho; clear hrg ho; clear hb)
          | (go_at_call 17; (with_reducible refine (treeItems_any _ t _ (LT.out.keep HQw9.out) hn).mono ?_); rintro e w10 ⟨vy, ly, rfl, hti, ho, hb⟩; have HQw10 : Hid (Below wr.heap.size wr w10) := HQw9.out.trans (hb.mono HQw9.out.size); have ey : lx = ly := (rng_all RX.out hti).symm; subst ey; have VY := hide ho.itms; have VX := hide (VX.out.keep hb); obtain ⟨ay, cy, rfl, -⟩ := own_slc ho; clear hti ho; clear hb)
          | (go_at_call 20; (with_reducible refine (equalItems_same _ _ lx _ VX.out VY.out).mono ?_); rintro e w11 ⟨rfl, hb⟩; have HQw11 : Hid (Below wr.heap.size wr w11) := HQw10.out.trans (hb.mono HQw10.out.size); clear hb)
          | fail)
        have hb := HQw11.out
        have H := hide (H.out.trans (hb.mono H.out.size))
        have LT := hide (LT.out.keep hb)
        have V6 := hide (V6.out.keep hb)
        have VB := hide (VB.out.keep hb)
        have B3 := hide (blk_own hb B3.out)
        clear hb HS
        have lB3 := lt_block B3.out
        have cB30 := cell_block B3.out 0
        go_wp2_with fail
        go_ret
        exact ⟨rfl, H.out⟩
end Go.Proofs.Ytmlphdniiiijpaa
