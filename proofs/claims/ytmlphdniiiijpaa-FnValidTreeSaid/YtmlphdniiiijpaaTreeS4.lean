/-
  TreeInsert of the specification.
-/
import Derived.Test.YtmlphdniiiijpaaTreeSL
set_option linter.all false
namespace Go.Proofs.Ytmlphdniiiijpaa
open Go.RowKit
set_option maxHeartbeats 16000000 in
set_option maxRecDepth 100000 in
theorem streeInsert_any (v : Value) (t : List (List Itm)) (x : Itm) (w : World) (h : Lvs w v t) (hn : (flatT t).length ≤ 1048576) :
    Calls Try.prog 37 #[.agg #[v], .agg #[.int .i64 x.k, .int .i64 x.r]] w (SChRet w (insOk t x) (insT t x)) := by
  have HLV := hide h
  obtain ⟨ta, tc, rfl⟩ := h.nil_eq
  clear h
  go_enter Try.func37, Try.ntmps37
  have HT0 := hide (blk_keep (blk_keep (blk_alloc w (.cells #[.slice ta t.length tc] 25)) (.cells #[.int .i64 x.k, .int .i64 x.r] 38)) (.cells #[.slice none 0 0] 25))
  have HX0 := hide (blk_keep (blk_at (W := w.alloc (.cells #[.slice ta t.length tc] 25)) (b := w.heap.size + 1) (by simp) (.cells #[.int .i64 x.k, .int .i64 x.r] 38)) (.cells #[.slice none 0 0] 25))
  have HRW := hide (blk_at (W := (w.alloc (.cells #[.slice ta t.length tc] 25)).alloc (.cells #[.int .i64 x.k, .int .i64 x.r] 38)) (b := w.heap.size + 2) (by simp) (.cells #[.slice none 0 0] 25))
  have HW := hide ((below_box2 w (.cells #[.slice ta t.length tc] 25) (.cells #[.int .i64 x.k, .int .i64 x.r] 38)).alloc (by simp; omega) (.cells #[.slice none 0 0] 25))
  go_upto_region 1 with fail
  generalize ((w.alloc (.cells #[.slice ta t.length tc] 25)).alloc (.cells #[.int .i64 x.k, .int .i64 x.r] 38)).alloc (.cells #[.slice none 0 0] 25) = W at *
  have HLL := hide (fun z (hz : Below W.heap.size W z) => (HLV.out.keep HW.out).keep hz)
  have hbs := lt_block HRW.out
  have hb0 : w.heap.size < W.heap.size := by omega
  have hb1 : w.heap.size + 1 < W.heap.size := by omega
  have HDW : Hid (Below W.heap.size W W.drew) := (Below.refl _ _).drew
  have HV := hide (fun z (hz : Below W.heap.size W z) => svalidTree_any (.slice ta t.length tc) t z (HLL.out z hz) hn)
  have HFL := hide (fun z (hz : Below W.heap.size W z) => sflat_any (.slice ta t.length tc) t z (HLL.out z hz) hn)
  have HS : Hid (∀ z, Below W.heap.size W z → (z.cell? ⟨w.heap.size, 0, none⟩ = some (.slice ta t.length tc) ∧ z.cell? ⟨w.heap.size + 1, 0, none⟩ = some (.int .i64 x.k) ∧ z.cell? ⟨w.heap.size + 1, 1, none⟩ = some (.int .i64 x.r))) :=
    fun z hz => ⟨(hz.cell (p := ⟨w.heap.size, 0, none⟩) hb0).trans (cell_block HT0.out 0), (hz.cell (p := ⟨w.heap.size + 1, 0, none⟩) hb1).trans (cell_block HX0.out 0), (hz.cell (p := ⟨w.heap.size + 1, 1, none⟩) hb1).trans (cell_block HX0.out 1)⟩
  go_cut [28] (fun s28 wx => Below W.heap.size W wx ∧ ∃ b, s28 = .bool b ∧ (b = false → insOk t x) ∧ (insOk t x → b = false))
  case first =>
    by_cases hY : VT t
    · have HY := hide hY
      have HVI := hide (fun z => svalidItem_any x z)
      have hn30 := hY.n
      clear hY
      obtain ⟨q2, hq2⟩ : ∃ q, okI x = q := ⟨_, rfl⟩
      rw [hq2] at HVI
      have HQ2 := hide hq2
      clear hq2
      cases q2 with
      | false =>
        obtain ⟨s0, s1, s2⟩ := HS.out _ (Below.refl _ _)
        go_region_law (first
          | (go_simp; go_at_call 42; (with_reducible refine (HV.out _ HDW.out).mono ?_); rintro e wa ⟨q, rfl, hv, hb⟩; obtain rfl : q = true := (hv.2 HY.out); have HBa : Hid (Below W.heap.size W wa) := HDW.out.trans hb; obtain ⟨a0, a1, a2⟩ := HS.out _ HBa.out; clear hv hb)
          | (go_simp; go_at_call 69; (with_reducible refine (HVI.out wa).mono ?_); rintro e wb ⟨rfl, hb⟩; have HBb : Hid (Below W.heap.size W wb) := HBa.out.trans (hb.mono HBa.out.size); obtain ⟨b0, b1, b2⟩ := HS.out _ HBb.out; clear hb))
        all_goals
          go_wp2_with fail
          go_meet
          exact ⟨HBb.out, true, rfl, by simp, fun h => absurd h (fun h => by have := h.2.1; rw [HQ2.out] at this; cases this)⟩
      | true =>
        obtain ⟨q3, hq3⟩ : ∃ q, hasI (flatT t) x = q := ⟨_, rfl⟩
        obtain ⟨F, hF⟩ : ∃ F, flatT t = F := ⟨_, rfl⟩
        have HHO := hide (fun (z : World) (u : Value) (hu : Itms z u (flatT t)) => holds_any u (flatT t) x z hu)
        have HF := hide hF
        rw [hq3] at HHO
        rw [hF] at HHO HFL hn30
        have HQ3 := hide hq3
        clear hq3 hF
        cases q3 with
        | true =>
          obtain ⟨s0, s1, s2⟩ := HS.out _ (Below.refl _ _)
          go_region_law (first
            | (go_simp; go_at_call 42; (with_reducible refine (HV.out _ HDW.out).mono ?_); rintro e wa ⟨q, rfl, hv, hb⟩; obtain rfl : q = true := (hv.2 HY.out); have HBa : Hid (Below W.heap.size W wa) := HDW.out.trans hb; obtain ⟨a0, a1, a2⟩ := HS.out _ HBa.out; clear hv hb)
            | (go_simp; go_at_call 69; (with_reducible refine (HVI.out wa).mono ?_); rintro e wb ⟨rfl, hb⟩; have HBb : Hid (Below W.heap.size W wb) := HBa.out.trans (hb.mono HBa.out.size); obtain ⟨b0, b1, b2⟩ := HS.out _ HBb.out; clear hb)
            | (go_simp; go_at_call 46; (with_reducible refine (HFL.out _ HBb.out).mono ?_); rintro e wc ⟨vc, rfl, ho, hb⟩; have HBc : Hid (Below W.heap.size W wc) := HBb.out.trans (hb.mono HBb.out.size); have HIc := hide ho.itms; obtain ⟨ac, cc, rfl, -⟩ := own_slc ho; obtain ⟨c0, c1, c2⟩ := HS.out _ HBc.out; clear ho hb)
            | (go_simp; go_at_call 58; (with_reducible refine (HHO.out _ _ HIc.out).mono ?_); rintro e wd ⟨rfl, hb⟩; have HBd : Hid (Below W.heap.size W wd) := HBc.out.trans (hb.mono HBc.out.size); obtain ⟨d0, d1, d2⟩ := HS.out _ HBd.out; clear hb))
          all_goals
            go_wp2_with fail
            go_meet
            exact ⟨HBd.out, true, rfl, by simp, fun h => absurd h (fun h => by have := h.2.2.1; rw [HQ3.out] at this; cases this)⟩
        | false =>
          by_cases h30 : F.length = 30
          · have h30' : ((F.length : Int) == 30) = true := by simp [h30]
            have H30 := hide h30
            clear h30
            obtain ⟨s0, s1, s2⟩ := HS.out _ (Below.refl _ _)
            go_region_law (first
              | (go_simp; go_at_call 42; (with_reducible refine (HV.out _ HDW.out).mono ?_); rintro e wa ⟨q, rfl, hv, hb⟩; obtain rfl : q = true := (hv.2 HY.out); have HBa : Hid (Below W.heap.size W wa) := HDW.out.trans hb; obtain ⟨a0, a1, a2⟩ := HS.out _ HBa.out; clear hv hb)
              | (go_simp; go_at_call 69; (with_reducible refine (HVI.out wa).mono ?_); rintro e wb ⟨rfl, hb⟩; have HBb : Hid (Below W.heap.size W wb) := HBa.out.trans (hb.mono HBa.out.size); obtain ⟨b0, b1, b2⟩ := HS.out _ HBb.out; clear hb)
              | (go_simp; go_at_call 46; (with_reducible refine (HFL.out _ HBb.out).mono ?_); rintro e wc ⟨vc, rfl, ho, hb⟩; have HBc : Hid (Below W.heap.size W wc) := HBb.out.trans (hb.mono HBb.out.size); have HIc := hide ho.itms; obtain ⟨ac, cc, rfl, -⟩ := own_slc ho; obtain ⟨c0, c1, c2⟩ := HS.out _ HBc.out; clear ho hb)
              | (go_simp; go_at_call 58; (with_reducible refine (HHO.out _ _ HIc.out).mono ?_); rintro e wd ⟨rfl, hb⟩; have HBd : Hid (Below W.heap.size W wd) := HBc.out.trans (hb.mono HBc.out.size); obtain ⟨d0, d1, d2⟩ := HS.out _ HBd.out; clear hb)
              | (go_simp; go_at_call 46; (with_reducible refine (HFL.out _ HBd.out).mono ?_); rintro e we ⟨ve, rfl, ho, hb⟩; have HBe : Hid (Below W.heap.size W we) := HBd.out.trans (hb.mono HBd.out.size); obtain ⟨ae, ce, rfl, -⟩ := own_slc ho; obtain ⟨e0, e1, e2⟩ := HS.out _ HBe.out; clear ho hb))
            all_goals
              go_wp2_with fail
              go_meet
              exact ⟨HBe.out, true, rfl, by simp, fun h => absurd h (fun h => by have := h.2.2.2; rw [HF.out] at this; have := H30.out; omega)⟩
          · have h30' : ((F.length : Int) == 30) = false := beq_false_of_ne (by omega)
            have HOK : Hid (insOk t x) := ⟨HY.out, HQ2.out, HQ3.out, by rw [HF.out]; omega⟩
            obtain ⟨s0, s1, s2⟩ := HS.out _ (Below.refl _ _)
            go_region_law (first
              | (go_simp; go_at_call 42; (with_reducible refine (HV.out _ HDW.out).mono ?_); rintro e wa ⟨q, rfl, hv, hb⟩; obtain rfl : q = true := (hv.2 HY.out); have HBa : Hid (Below W.heap.size W wa) := HDW.out.trans hb; obtain ⟨a0, a1, a2⟩ := HS.out _ HBa.out; clear hv hb)
              | (go_simp; go_at_call 69; (with_reducible refine (HVI.out wa).mono ?_); rintro e wb ⟨rfl, hb⟩; have HBb : Hid (Below W.heap.size W wb) := HBa.out.trans (hb.mono HBa.out.size); obtain ⟨b0, b1, b2⟩ := HS.out _ HBb.out; clear hb)
              | (go_simp; go_at_call 46; (with_reducible refine (HFL.out _ HBb.out).mono ?_); rintro e wc ⟨vc, rfl, ho, hb⟩; have HBc : Hid (Below W.heap.size W wc) := HBb.out.trans (hb.mono HBb.out.size); have HIc := hide ho.itms; obtain ⟨ac, cc, rfl, -⟩ := own_slc ho; obtain ⟨c0, c1, c2⟩ := HS.out _ HBc.out; clear ho hb)
              | (go_simp; go_at_call 58; (with_reducible refine (HHO.out _ _ HIc.out).mono ?_); rintro e wd ⟨rfl, hb⟩; have HBd : Hid (Below W.heap.size W wd) := HBc.out.trans (hb.mono HBc.out.size); obtain ⟨d0, d1, d2⟩ := HS.out _ HBd.out; clear hb)
              | (go_simp; go_at_call 46; (with_reducible refine (HFL.out _ HBd.out).mono ?_); rintro e we ⟨ve, rfl, ho, hb⟩; have HBe : Hid (Below W.heap.size W we) := HBd.out.trans (hb.mono HBd.out.size); obtain ⟨ae, ce, rfl, -⟩ := own_slc ho; obtain ⟨e0, e1, e2⟩ := HS.out _ HBe.out; clear ho hb))
            all_goals
              go_wp2_with fail
              go_meet
              exact ⟨HBe.out, false, rfl, fun _ => HOK.out, fun _ => rfl⟩
    · have HN1 := hide hY
      clear hY
      obtain ⟨s0, s1, s2⟩ := HS.out _ (Below.refl _ _)
      go_region_law (first
        | (go_simp; go_at_call 42; (with_reducible refine (HV.out _ HDW.out).mono ?_); rintro e wa ⟨q, rfl, hv, hb⟩; obtain rfl : q = false := ((by cases q; rfl; exact absurd (hv.1 rfl) HN1.out)); have HBa : Hid (Below W.heap.size W wa) := HDW.out.trans hb; obtain ⟨a0, a1, a2⟩ := HS.out _ HBa.out; clear hv hb))
      all_goals
        go_wp2_with fail
        go_meet
        exact ⟨HBa.out, true, rfl, by simp, fun h => absurd h (fun h => HN1.out h.1)⟩
  case rest =>
    obtain ⟨hbx, b28, rfl, hb1, hb2⟩ := hcut
    have HBX := hide hbx
    have HW1 := hide hb1
    have HW2 := hide hb2
    clear hb1 hb2 hbx
    have HT := hide (blk_own HBX.out HT0.out)
    have HX := hide (blk_own HBX.out HX0.out)
    have HR := hide (blk_own HBX.out HRW.out)
    have H1 : Hid (Below w.heap.size w wc) := HW.out.trans (HBX.out.mono HW.out.size)
    have hwc := HBX.out.size
    clear HT0 HX0 HRW HV HFL HS HDW hb0 hb1 HLL
    have hbs := lt_block HR.out
    have s0 := cell_block HT.out 0
    have s1 := cell_block HX.out 0
    have s2 := cell_block HX.out 1
    have s3 := cell_block HR.out 0
    have s4 := froz_block HR.out 0
    cases b28 with
    | true =>
      have HNO : Hid (¬ insOk t x) := fun h => by have := HW2.out h; cases this
      have HF : Hid (Below w.heap.size w (wc.setCell ⟨w.heap.size + 2, 0, none⟩ (.slice none 0 0))) := H1.out.setCell (by simp) _
      have S3 := hide (set_block HR.out 0 (.slice none 0 0))
      have s5 := cell_block S3.out 0
      go_wp2_with fail
      all_goals go_tidy
      refine ⟨rfl, .tuple #[.agg #[.slice none 0 0], .bool false], by simp [results, Try.results37, go_sem, s5], schRet_no HNO.out HF.out⟩
    | false =>
      have HOK : Hid (insOk t x) := HW1.out rfl
      have HY : Hid (VT t) := HOK.out.1
      have HQ3 : Hid (hasI (flatT t) x = false) := HOK.out.2.2.1
      clear HW1 HW2
      by_cases h0 : t.length = 0
      · have HT0 : Hid (insT t x = [[x]]) := by unfold Hid insT; rw [dif_neg (by omega)]
        have HAA := hide (below_box2 wc (.cells #[.int .i64 x.k, .int .i64 x.r] 38) (.cells #[.slice (some ⟨wc.heap.size, 0, none⟩) 1 1] 28))
        have HRA := hide (blk_own HAA.out HR.out)
        have s3' := cell_block HRA.out 0
        have s4' := froz_block HRA.out 0
        have HOI : Hid (OwnI (w.heap.size + 3) (wc.alloc (.cells #[.int .i64 x.k, .int .i64 x.r] 38)) (.slice (some ⟨wc.heap.size, 0, none⟩) 1 1) [x]) := own_of (by omega) (blk_alloc wc _) (by rfl) (by unfold maxLen; omega) (Nat.le_refl _) (by rfl) (fun j _ => by simp [itmCells])
        have HOL := hide ((ownL_block (b := wc.heap.size + 1) (B := w.heap.size + 3) (ys := [.slice (some ⟨wc.heap.size, 0, none⟩) 1 1]) (by simp) (by simp; omega) (LvsX.one HOI.out) (by simp)).low (k := w.heap.size + 2) (j := 0) (u := .slice (some ⟨wc.heap.size + 1, 0, none⟩) 1 1) (by omega))
        have HF : Hid (Below w.heap.size w (((wc.alloc (.cells #[.int .i64 x.k, .int .i64 x.r] 38)).alloc (.cells #[.slice (some ⟨wc.heap.size, 0, none⟩) 1 1] 28)).setCell ⟨w.heap.size + 2, 0, none⟩ (.slice (some ⟨wc.heap.size + 1, 0, none⟩) 1 1))) := (H1.out.trans (HAA.out.mono (by omega))).setCell (by simp) _
        have S3 := hide (set_block HRA.out 0 (.slice (some ⟨wc.heap.size + 1, 0, none⟩) 1 1))
        have s5 := cell_block S3.out 0
        go_wp2_with fail
        all_goals go_tidy
        refine ⟨rfl, .tuple #[.agg #[.slice (some ⟨wc.heap.size + 1, 0, none⟩) 1 1], .bool true], by simp [results, Try.results37, go_sem, s5], schRet_yes HOK.out (by rw [HT0.out]; exact HOL.out.toR.mono (by omega)) HF.out⟩
      · have h0' : ((t.length : Int) == 0) = false := beq_false_of_ne (by omega)
        have hpos : 0 < t.length := by omega
        obtain ⟨p, hpe⟩ : ∃ p, p = leafAt t x t.length := ⟨_, rfl⟩
        have hp : p < t.length := hpe ▸ leafAt_lt x hpos
        have HIT : Hid (insT t x = withT t p 1 (putL t[p] x)) := by subst hpe; unfold Hid insT; rw [dif_pos hpos]
        have HLF := hide (fun z hz => leafOf_any (.slice ta t.length tc) t x z hz HY.out.ne hpos)
        rw [← hpe] at HLF
        have hnl : hasI t[p] x = false := by
          subst hpe
          cases hq : hasI (t[leafAt t x t.length]'(leafAt_lt x hpos)) x with
          | false => rfl
          | true =>
            have := (has_leaf HY.out.srt HY.out.ne x hpos).2 (hasI_iff.1 hq)
            have h3 := HQ3.out
            rw [hasI_iff.2 this] at h3; cases h3
        have hpl := putL_len1 (srt_sub HY.out.srt (List.getElem_mem hp)) hnl
        clear hpe hnl
        go_wp2_with fail
        refine (HLF.out _ (HLV.out.keep H1.out)).mono ?_
        rintro e w5 ⟨rfl, hb⟩
        have H5 : Hid (Below w.heap.size w w5) := H1.out.trans (hb.mono H1.out.size)
        have HT5 := hide (blk_own hb HT.out)
        have HX5 := hide (blk_own hb HX.out)
        have HR5 := hide (blk_own hb HR.out)
        have hl4 := (HY.out.len _ (List.getElem_mem hp)).2
        have hlv : Lvs w (.slice ta t.length tc) t := HLV.out
        clear hb HLF HT HX HR s0 s1 s2 s3 s4 hbs H1 HQ3 HBX HW hwc
        obtain ⟨ta', tc', he, htc, htc2, hd⟩ := hlv
        injection he with he1 _ he2
        subst he1; subst he2
        obtain ⟨b, off, rfl, hbb, hcell⟩ := hd.resolve_left (by rintro rfl; simp at hpos)
        obtain ⟨lv, e0, hlv, -⟩ := hcell p hp
        have e0 := (H5.out.cell hbb).trans e0
        have hlv := hlv.keep H5.out
        obtain ⟨la, lc, rfl⟩ := itms_shape hlv
        have HLF := hide hlv
        have hbs := lt_block HR5.out
        have hb0 : w.heap.size < w5.heap.size := by omega
        have hb1 : w.heap.size + 1 < w5.heap.size := by omega
        have hbb5 : b < w5.heap.size := by have := H5.out.size; omega
        have hp' : (p : Int) < (t.length : Int) := by omega
        clear hd hcell hlv
        obtain ⟨L, hL⟩ : ∃ L, t[p] = L := ⟨_, rfl⟩
        rw [hL] at e0 HLF hl4 HIT hpl
        clear hL
        obtain ⟨D, hD⟩ : ∃ D, putL L x = D := ⟨_, rfl⟩
        have HPT := hide (fun z (hz : Below w5.heap.size w5 z) => put_any _ L x z (HLF.out.keep hz) (by omega))
        rw [hD] at HPT HIT hpl
        have hD5 : D.length ≤ 5 := by omega
        have hD1 : 1 ≤ D.length := by omega
        clear hD hpl
        have HDW : Hid (Below w5.heap.size w5 w5.drew) := (Below.refl _ _).drew
        have HS : Hid (∀ z, Below w5.heap.size w5 z → (z.cell? ⟨w.heap.size, 0, none⟩ = some (.slice (some ⟨b, off, none⟩) t.length tc) ∧ z.cell? ⟨w.heap.size + 1, 0, none⟩ = some (.int .i64 x.k) ∧ z.cell? ⟨w.heap.size + 1, 1, none⟩ = some (.int .i64 x.r) ∧ z.cell? ⟨b, off + p, none⟩ = some (.slice la L.length lc))) :=
          fun z hz => ⟨(hz.cell (p := ⟨w.heap.size, 0, none⟩) hb0).trans (cell_block HT5.out 0), (hz.cell (p := ⟨w.heap.size + 1, 0, none⟩) hb1).trans (cell_block HX5.out 0), (hz.cell (p := ⟨w.heap.size + 1, 1, none⟩) hb1).trans (cell_block HX5.out 1), (hz.cell (p := ⟨b, off + p, none⟩) hbb5).trans e0⟩
        go_wp2_with fail
        go_region_held3 (fun z => (z.cell? ⟨w.heap.size, 0, none⟩ = some (.slice (some ⟨b, off, none⟩) t.length tc) ∧ z.cell? ⟨w.heap.size + 1, 0, none⟩ = some (.int .i64 x.k) ∧ z.cell? ⟨w.heap.size + 1, 1, none⟩ = some (.int .i64 x.r) ∧ z.cell? ⟨b, off + p, none⟩ = some (.slice la L.length lc))) (first | exact HS.out _ (Below.refl _ _) | exact HS.out _ HDW.out | exact HS.out _ HB6.out) (first
          | (go_at_call 70; (with_reducible refine (HPT.out _ HDW.out).mono ?_); rintro e w6 ⟨v6, rfl, ho, hb⟩; have HB6 : Hid (Below w5.heap.size w5 w6) := HDW.out.trans hb; have HO6 : Hid (OwnI w5.heap.size w6 v6 D) := ho; obtain ⟨a6, c6, rfl, -⟩ := own_slc ho; clear ho hb))
        all_goals
          have HT := hide (blk_own HB6.out HT5.out)
          have HR := hide (blk_own HB6.out HR5.out)
          have H6 : Hid (Below w.heap.size w w6) := H5.out.trans (HB6.out.mono H5.out.size)
          clear HPT HS HT5 HR5 HX5 HDW hb0 hb1 hbb5 hbs H5 e0 HLF
          have hbs := lt_block HR.out
          have hbs0 : w.heap.size < w6.heap.size := by omega
          have s0 := cell_block HT.out 0
          have s3 := cell_block HR.out 0
          have s4 := froz_block HR.out 0
          have HL6 := hide (HLV.out.keep H6.out)
          have ht30 : t.length ≤ 30 := HY.out.leaves
          have ht1000 : t.length ≤ 1000 := by omega
          have hls : ∀ g ∈ t, g.length ≤ 1000 := fun g hg => Nat.le_trans (HY.out.len g hg).2 (by omega)
          by_cases h4 : D.length ≤ 4
          · have d4 : decide ((D.length : Int) ≤ 4) = true := decide_eq_true (by omega)
            have HGS : Hid (divL D = [D]) := by unfold Hid divL; rw [if_neg (by omega), if_pos h4]
            have HA7 : Hid (Below w6.heap.size w6 (w6.alloc (.cells #[.slice a6 D.length c6] 28))) := below_box w6 _
            have HWL := hide (withLeaves1_any _ t (.slice (some ⟨w6.heap.size, 0, none⟩) 1 1) [.slice a6 D.length c6] [D] p _ (HL6.out.keep HA7.out) (.inr ⟨⟨w6.heap.size, 0, none⟩, 1, rfl, World.news_of_block (cs := #[.slice a6 D.length c6]) (blk_alloc w6 _)⟩) (lfs_one (HO6.out.itms.keep HA7.out) (nilOk_own HO6.out)) (by simp) ht1000 hp hls)
            rw [← HGS.out, withG_K, withK_end (by omega) hp, ← HIT.out] at HWL
            have A0 := (cell_alloc (p := ⟨w.heap.size, 0, none⟩) hbs0 (.cells #[.slice a6 D.length c6] 28)).trans s0
            clear h4
            go_wp2_with fail
            refine HWL.out.mono ?_
            rintro e w7 ⟨v7, rfl, hl7, hb⟩
            have HB7 : Hid (Below w6.heap.size w6 w7) := HA7.out.trans (hb.mono HA7.out.size)
            have HL7 := hide (hl7.mono (B' := w6.heap.size) HA7.out.size)
            have HR7 := hide (blk_own HB7.out HR.out)
            obtain ⟨a7, c7, rfl⟩ := hl7.nil_eq
            clear hb hl7 HWL s0 s3 s4 A0 HA7
            have D0 := cell_block HR7.out 0
            have DF := froz_block HR7.out 0
            have HF : Hid (Below w.heap.size w (w7.setCell ⟨w.heap.size + 2, 0, none⟩ (.slice a7 (insT t x).length c7))) := (H6.out.trans (HB7.out.mono H6.out.size)).setCell (by simp) _
            have S3 := hide (set_block HR7.out 0 (.slice a7 (insT t x).length c7))
            have s5 := cell_block S3.out 0
            have HOF := hide ((HL7.out.boxT (u := .slice a7 (insT t x).length c7) HR7.out).mono (B' := w.heap.size) (by omega))
            go_wp2_with fail
            all_goals go_tidy
            refine ⟨rfl, .tuple #[.agg #[.slice a7 (insT t x).length c7], .bool true], by simp [results, Try.results37, go_sem, s5], schRet_yes HOK.out HOF.out HF.out⟩
          · have d4 : decide ((D.length : Int) ≤ 4) = false := decide_eq_false (by omega)
            obtain ⟨k, hk⟩ : ∃ k, D.length / 2 = k := ⟨_, rfl⟩
            obtain ⟨m, hm⟩ : ∃ m, D.length = k + m := ⟨D.length - k, by omega⟩
            have HGS : Hid (divL D = [D.take k, D.drop k]) := by unfold Hid divL; rw [if_neg (by omega), if_neg h4, hk]
            have hk0 : 0 < k := by omega
            have hm0 : 0 < m := by omega
            have hq : (D.length : Int).tdiv 2 = (k : Int) := by rw [← hk]; rfl
            have hq' : (D.length : Int) / 2 = (k : Int) := by omega
            obtain ⟨b6, off6, rfl, hI1⟩ := itms_part (i := 0) (m := k) HO6.out.itms (by omega) hk0
            obtain ⟨b', off', he, hI2⟩ := itms_part (i := k) (m := m) HO6.out.itms (by omega) hm0
            injection he with he
            injection he with he1 he2 _
            subst he1; subst he2
            rw [List.drop_zero, Nat.zero_mul, Nat.add_zero, Nat.sub_zero] at hI1
            rw [List.take_of_length_le (by rw [List.length_drop]; omega)] at hI2
            have HI1 := hide hI1
            have HI2 := hide hI2
            have hc6 := hI1
            have hl1 : (D.take k).length = k := by rw [List.length_take]; omega
            have hl2 : (D.drop k).length = m := by rw [List.length_drop]; omega
            have hcap6 : D.length ≤ c6 := by
              obtain ⟨_, _, he, h1, -⟩ := HO6.out.itms
              injection he with _ _ he
              omega
            obtain ⟨n, hnn⟩ : ∃ n, D.length = n := ⟨_, rfl⟩
            rw [hnn] at d4 hq hq' hm hcap6 hD5 hD1
            clear hI1 hI2 hk h4 hc6
            generalize D.take k = f1 at *
            generalize D.drop k = f2 at *
            subst hl1
            subst hl2
            have hnm : n - f1.length = f2.length := by omega
            have t1 : (f1.length : Int) ≤ (n : Int) := by omega
            have t3 : ¬ c6 = f1.length := by omega
            have t4 : f1.length ≤ c6 := by omega
            have HN1 := hide (fun z (hz : Below w6.heap.size w6 z) => itms_newsA (HI1.out.keep hz))
            have HN2 := hide (fun z (hz : Below w6.heap.size w6 z) => itms_newsA (HI2.out.keep hz))
            rw [hnn]
            have HL := hide hm
            clear hm hnn HI1 HI2
            have HDW : Hid (Below w6.heap.size w6 w6.drew) := (Below.refl _ _).drew
            have HA1 : Hid (∀ o, Below w6.heap.size w6 (w6.alloc o).drew) := fun o => (below_box w6 o).drew
            have HA2 : Hid (∀ o o', Below w6.heap.size w6 ((w6.alloc o).alloc o').drew) := fun o o' => (below_box2 w6 o o').drew
            have HS : Hid (∀ z, Below w6.heap.size w6 z → z.cell? ⟨w.heap.size, 0, none⟩ = some (.slice (some ⟨b, off, none⟩) t.length tc)) := fun z hz => (hz.cell (p := ⟨w.heap.size, 0, none⟩) hbs0).trans (cell_block HT.out 0)
            have HS2 : Hid (∀ z u, Below w6.heap.size w6 z → (z.setCell ⟨w.heap.size + 1 + 1, 0, none⟩ u).cell? ⟨w.heap.size, 0, none⟩ = some (.slice (some ⟨b, off, none⟩) t.length tc)) := fun z u hz => (World.cell?_of_block (a := ⟨w.heap.size, 0, none⟩) (Below.heap_setCell z ⟨w.heap.size + 1 + 1, 0, none⟩ u w.heap.size (by show w.heap.size ≠ w.heap.size + 1 + 1; omega))).trans (HS.out z hz)
            have HWL := hide (fun (z : World) (v1 v2 : Value) (hz : Below w6.heap.size w6 z) (h1 : Itms z v1 f1) (h2 : Itms z v2 f2) (n1 : NilOk v1) (n2 : NilOk v2) => withLeaves1_any _ t (.slice (some ⟨z.heap.size, 0, none⟩) 2 2) [v1, v2] [f1, f2] p _ ((HL6.out.keep hz).keep (below_box z (.cells #[v1, v2] 28))) (.inr ⟨⟨z.heap.size, 0, none⟩, 2, rfl, World.news_of_block (cs := #[v1, v2]) (blk_alloc z _)⟩) (lfs_two (h1.keep (below_box z _)) n1 (h2.keep (below_box z _)) n2) (by simp) ht1000 hp hls)
            rw [← HGS.out, withG_K, withK_end (by omega) hp, ← HIT.out] at HWL
            clear s0 HLV HL6 HY
            go_wp2_with fail
            go_region_held3 (fun z => z.cell? ⟨w.heap.size, 0, none⟩ = some (.slice (some ⟨b, off, none⟩) t.length tc)) (first | exact HS.out _ (Below.refl _ _) | exact HS.out _ HDW.out | exact HS.out _ (HA1.out _) | exact HS.out _ (HA2.out _ _) | exact HS.out _ HB8.out | exact HS.out _ (HB8.out.alloc HB8.out.size _) | exact HS.out _ HB9.out | exact HS.out _ (HB9.out.alloc HB9.out.size _) | exact HS.out _ HB7.out | exact HS2.out _ _ HB7.out) (first
              | (refine step_copyI _ rfl (.tmp 61) (.tmp 64) rfl w6.heap.size _ (by rfl) (by first | exact blk_drew0 (blk_alloc w6 _) | exact blk_drew0 (blk_keep (blk_alloc w6 _) _) | exact blk_drew0 (blk_at (by simp) _)) (by omega) _ f1 _ (by rfl) (HN1.out _ (by first | exact HA1.out _ | exact HA2.out _ _)) (by omega) (by omega) (by first | exact (HA1.out _).size | exact (HA2.out _ _).size) ?_; intro g8 c8 w8 ho hg hat; have HB8 : Hid (Below w6.heap.size w6 w8) := (by first | exact (HA1.out _).grown hg (HA1.out _).size (fun q hq => by injection hq with hq; omega) | exact (HA2.out _ _).grown hg (HA2.out _ _).size (fun q hq => by injection hq with hq; omega)); have HO8 := hide ho; (first | (have HL0 := blk_drew0 (blk_at (W := w6.alloc (.cells #[] 38)) (b := w6.heap.size + 1) (by simp) (.cells #[] 38)); have HL1 := lt_block HL0; have HL2 := hide ((hg.block (w6.heap.size + 1) HL1 (by intro q; injection q with q; omega)).trans HL0); have HG8 : Hid (g8 ≠ w6.heap.size + 1) := (by unfold Hid; rcases hat with hat | hat <;> omega); clear HL0 HL1) | (have HL0 := blk_drew0 (blk_keep (blk_alloc w6 (.cells #[] 38)) (.cells #[] 38)); have HL1 := lt_block (blk_drew0 (blk_at (W := w6.alloc (.cells #[] 38)) (b := w6.heap.size + 1) (by simp) (.cells #[] 38))); have HL2 := hide ((hg.block w6.heap.size (lt_block HL0) (by intro q; injection q with q; omega)).trans HL0); have HG8 : Hid (g8 ≠ w6.heap.size) := (by unfold Hid; rcases hat with hat | hat <;> omega); clear HL0 HL1) | skip); have hlt8 : g8 < w8.heap.size := (World.ownsRow.lt ho g8 rfl).2; clear ho hg hat)
              | (refine step_copyI _ rfl (.tmp 66) (.tmp 69) rfl w6.heap.size _ (by rfl) (by first | exact HL2.out | exact blk_alloc w8 _) (by have := HB8.out.size; omega) _ f2 _ (by rfl) (HN2.out _ (by first | exact HB8.out | exact HB8.out.alloc HB8.out.size _)) (by omega) (by omega) (by first | exact HB8.out.size | exact (HB8.out.alloc HB8.out.size _).size) ?_; intro g9 c9 w9 ho hg hat; have HB9 : Hid (Below w6.heap.size w6 w9) := (by first | exact HB8.out.grown hg HB8.out.size (fun q hq => by injection hq with hq; omega) | exact (HB8.out.alloc HB8.out.size _).grown hg (HB8.out.alloc HB8.out.size _).size (fun q hq => by injection hq with hq; have := HB8.out.size; omega)); have HO9 := hide ho.itms; have HI8 : Hid (Itms w9 (.slice (some ⟨g8, 0, none⟩) f1.length c8) f1) := (by first | exact OwnI.itms (B := w6.heap.size) (l := f1) (own_by HO8.out hg (fun q => HG8.out (by injection q))) | exact OwnI.itms (B := w6.heap.size) (l := f1) (own_by (HO8.out.alloc _) hg (fun q => by have q : g8 = w8.heap.size := (by injection q); omega))); clear ho hg hat)
              | (go_at_call 61; (with_reducible refine (HWL.out w9 _ _ HB9.out HI8.out HO9.out nilOk_some nilOk_some).mono ?_); rintro e w7 ⟨v7, rfl, hl7, hb⟩; have HB7 : Hid (Below w6.heap.size w6 w7) := (HB9.out.alloc HB9.out.size _).trans (hb.mono (HB9.out.alloc HB9.out.size _).size); have HL7 := hide (hl7.mono (B' := w6.heap.size) (HB9.out.alloc HB9.out.size _).size); have HR7 := hide (blk_own HB7.out HR.out); obtain ⟨a7, c7, rfl⟩ := hl7.nil_eq; have D0 := cell_block HR7.out 0; have DF := froz_block HR7.out 0; clear hb hl7))
            all_goals
              clear HS HS2 HWL HA1 HA2 HN1 HN2 HDW
              have HF : Hid (Below w.heap.size w (w7.setCell ⟨w.heap.size + 2, 0, none⟩ (.slice a7 (insT t x).length c7))) := (H6.out.trans (HB7.out.mono H6.out.size)).setCell (by simp) _
              have S3 := hide (set_block HR7.out 0 (.slice a7 (insT t x).length c7))
              have s5 := cell_block S3.out 0
              have HOF := hide ((HL7.out.boxT (u := .slice a7 (insT t x).length c7) HR7.out).mono (B' := w.heap.size) (by omega))
              go_wp2_with fail
              all_goals go_tidy
              refine ⟨rfl, .tuple #[.agg #[.slice a7 (insT t x).length c7], .bool true], by simp [results, Try.results37, go_sem, s5], schRet_yes HOK.out HOF.out HF.out⟩
end Go.Proofs.Ytmlphdniiiijpaa
