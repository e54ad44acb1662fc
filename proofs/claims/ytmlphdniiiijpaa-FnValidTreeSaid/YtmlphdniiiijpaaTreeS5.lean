/-
  TreeDelete of the specification.
-/
import Derived.Test.YtmlphdniiiijpaaTreeSL
set_option linter.all false
namespace Go.Proofs.Ytmlphdniiiijpaa
open Go.RowKit
theorem withLeaves2_any (v : Value) (t : List (List Itm)) (lv : Value) (ys : List Value) (gs : List (List Itm)) (p : Nat) (w : World) (h : Lvs w v t) (hnw : News w lv ys) (hys : ys.length = gs.length ∧ ∀ i (h : i < gs.length), ∃ lv, ys[i]? = some lv ∧ Itms w lv gs[i] ∧ NilOk lv) (hg2 : gs.length ≤ 2)
    (ht : t.length ≤ 1000) (hp : p < t.length) (hls : ∀ g ∈ t, g.length ≤ 1000) :
    Calls Try.prog 61 #[.agg #[v], .int .i64 (p : Int), .int .i64 2, lv] w (LGRet w (withG t p 2 gs t.length)) := withLeaves_any v t lv ys gs p 2 w h hnw hys hg2 (by decide) (by decide) ht hp hls
theorem withLeaves20_any (v : Value) (t : List (List Itm)) (lv : Value) (ys : List Value) (gs : List (List Itm)) (w : World) (h : Lvs w v t) (hnw : News w lv ys) (hys : ys.length = gs.length ∧ ∀ i (h : i < gs.length), ∃ lv, ys[i]? = some lv ∧ Itms w lv gs[i] ∧ NilOk lv) (hg2 : gs.length ≤ 2)
    (ht : t.length ≤ 1000) (hp : 0 < t.length) (hls : ∀ g ∈ t, g.length ≤ 1000) :
    Calls Try.prog 61 #[.agg #[v], .int .i64 0, .int .i64 2, lv] w (LGRet w (withG t 0 2 gs t.length)) := withLeaves2_any v t lv ys gs 0 w h hnw hys hg2 ht hp hls
theorem delT_eq {t : List (List Itm)} {x : Itm} (h0 : 0 < t.length) {p : Nat} (hp : p = leafAt t x t.length) {L : List Itm} (hL : t.getD p [] = L) :
    delT t x = if 2 ≤ (delL L x).length ∨ t.length = 1 then withT t p 1 (delL L x) else if p = 0 then withT t 0 2 (delL L x ++ t.getD 1 []) else withT t (p - 1) 2 (t.getD (p - 1) [] ++ delL L x) := by
  unfold delT delAt
  rw [if_pos h0, ← hp, hL]
theorem hasI_leaf {t : List (List Itm)} {x : Itm} (h : VT t) (h0 : 0 < t.length) (hx : hasI (flatT t) x = true) : hasI (t[leafAt t x t.length]'(leafAt_lt x h0)) x = true := hasI_iff.2 ((has_leaf h.srt h.ne x h0).1 (hasI_iff.1 hx))
set_option maxHeartbeats 16000000 in
set_option maxRecDepth 100000 in
theorem streeDelete_any (v : Value) (t : List (List Itm)) (x : Itm) (w : World) (h : Lvs w v t) (hn : (flatT t).length ≤ 1048576) :
    Calls Try.prog 27 #[.agg #[v], .agg #[.int .i64 x.k, .int .i64 x.r]] w (SChRet w (delOk t x) (delT t x)) := by
  have HLV := hide h
  obtain ⟨ta, tc, rfl⟩ := h.nil_eq
  clear h
  go_enter Try.func27, Try.ntmps27
  have HT0 := hide (blk_keep (blk_keep (blk_alloc w (.cells #[.slice ta t.length tc] 25)) (.cells #[.int .i64 x.k, .int .i64 x.r] 38)) (.cells #[.slice none 0 0] 25))
  have HX0 := hide (blk_keep (blk_at (W := w.alloc (.cells #[.slice ta t.length tc] 25)) (b := w.heap.size + 1) (by simp) (.cells #[.int .i64 x.k, .int .i64 x.r] 38)) (.cells #[.slice none 0 0] 25))
  have HRW := hide (blk_at (W := (w.alloc (.cells #[.slice ta t.length tc] 25)).alloc (.cells #[.int .i64 x.k, .int .i64 x.r] 38)) (b := w.heap.size + 2) (by simp) (.cells #[.slice none 0 0] 25))
  have HW := hide ((below_box2 w (.cells #[.slice ta t.length tc] 25) (.cells #[.int .i64 x.k, .int .i64 x.r] 38)).alloc (by simp; omega) (.cells #[.slice none 0 0] 25))
  go_upto_region 1 with fail
  generalize ((w.alloc (.cells #[.slice ta t.length tc] 25)).alloc (.cells #[.int .i64 x.k, .int .i64 x.r] 38)).alloc (.cells #[.slice none 0 0] 25) = W at *
  have HLL := hide (fun z (hz : Below W.heap.size W z) => (HLV.out.keep HW.out).keep hz)
  have hbs := lt_block HRW.out
  have hb0 : w.heap.size < W.heap.size := by omega
  have hb1 : w.heap.size + 1 < W.heap.size := by omega
  have HDW : Hid (Below W.heap.size W W.drew) := (Below.refl _ _).drew
  have HV := hide (fun z (hz : Below W.heap.size W z) => svalidTree_any (.slice ta t.length tc) t z (HLL.out z hz) hn)
  have HFL := hide (fun z (hz : Below W.heap.size W z) => sflat_any (.slice ta t.length tc) t z (HLL.out z hz) hn)
  have HS : Hid (∀ z, Below W.heap.size W z → (z.cell? ⟨w.heap.size, 0, none⟩ = some (.slice ta t.length tc) ∧ z.cell? ⟨w.heap.size + 1, 0, none⟩ = some (.int .i64 x.k) ∧ z.cell? ⟨w.heap.size + 1, 1, none⟩ = some (.int .i64 x.r))) :=
    fun z hz => ⟨(hz.cell (p := ⟨w.heap.size, 0, none⟩) hb0).trans (cell_block HT0.out 0), (hz.cell (p := ⟨w.heap.size + 1, 0, none⟩) hb1).trans (cell_block HX0.out 0), (hz.cell (p := ⟨w.heap.size + 1, 1, none⟩) hb1).trans (cell_block HX0.out 1)⟩
  go_cut [20] (fun s20 wx => Below W.heap.size W wx ∧ ∃ b, s20 = .bool b ∧ (b = false → delOk t x) ∧ (delOk t x → b = false))
  case first =>
    by_cases hY : VT t
    · have HY := hide hY
      clear hY
      obtain ⟨q3, hq3⟩ : ∃ q, hasI (flatT t) x = q := ⟨_, rfl⟩
      obtain ⟨F, hF⟩ : ∃ F, flatT t = F := ⟨_, rfl⟩
      have HHO := hide (fun (z : World) (u : Value) (hu : Itms z u (flatT t)) => holds_any u (flatT t) x z hu)
      rw [hq3] at HHO
      rw [hF] at HHO HFL
      have HQ3 := hide hq3
      clear hq3 hF
      cases q3 with
      | false =>
        obtain ⟨s0, s1, s2⟩ := HS.out _ (Below.refl _ _)
        go_region_law (first
          | (go_simp; go_at_call 42; (with_reducible refine (HV.out _ HDW.out).mono ?_); rintro e wa ⟨q, rfl, hv, hb⟩; obtain rfl : q = true := (hv.2 HY.out); have HBa : Hid (Below W.heap.size W wa) := HDW.out.trans hb; obtain ⟨a0, a1, a2⟩ := HS.out _ HBa.out; clear hv hb)
          | (go_simp; go_at_call 46; (with_reducible refine (HFL.out _ HBa.out).mono ?_); rintro e wc ⟨vc, rfl, ho, hb⟩; have HBc : Hid (Below W.heap.size W wc) := HBa.out.trans (hb.mono HBa.out.size); have HIc := hide ho.itms; obtain ⟨ac, cc, rfl, -⟩ := own_slc ho; obtain ⟨c0, c1, c2⟩ := HS.out _ HBc.out; clear ho hb)
          | (go_simp; go_at_call 58; (with_reducible refine (HHO.out _ _ HIc.out).mono ?_); rintro e wd ⟨rfl, hb⟩; have HBd : Hid (Below W.heap.size W wd) := HBc.out.trans (hb.mono HBc.out.size); obtain ⟨d0, d1, d2⟩ := HS.out _ HBd.out; clear hb))
        all_goals
          go_wp2_with fail
          go_meet
          exact ⟨HBd.out, true, rfl, by simp, fun h => absurd h (fun h => by have := h.2; rw [HQ3.out] at this; cases this)⟩
      | true =>
        have HOK : Hid (delOk t x) := ⟨HY.out, HQ3.out⟩
        obtain ⟨s0, s1, s2⟩ := HS.out _ (Below.refl _ _)
        go_region_law (first
          | (go_simp; go_at_call 42; (with_reducible refine (HV.out _ HDW.out).mono ?_); rintro e wa ⟨q, rfl, hv, hb⟩; obtain rfl : q = true := (hv.2 HY.out); have HBa : Hid (Below W.heap.size W wa) := HDW.out.trans hb; obtain ⟨a0, a1, a2⟩ := HS.out _ HBa.out; clear hv hb)
          | (go_simp; go_at_call 46; (with_reducible refine (HFL.out _ HBa.out).mono ?_); rintro e wc ⟨vc, rfl, ho, hb⟩; have HBc : Hid (Below W.heap.size W wc) := HBa.out.trans (hb.mono HBa.out.size); have HIc := hide ho.itms; obtain ⟨ac, cc, rfl, -⟩ := own_slc ho; obtain ⟨c0, c1, c2⟩ := HS.out _ HBc.out; clear ho hb)
          | (go_simp; go_at_call 58; (with_reducible refine (HHO.out _ _ HIc.out).mono ?_); rintro e wd ⟨rfl, hb⟩; have HBd : Hid (Below W.heap.size W wd) := HBc.out.trans (hb.mono HBc.out.size); obtain ⟨d0, d1, d2⟩ := HS.out _ HBd.out; clear hb))
        all_goals
          go_wp2_with fail
          go_meet
          exact ⟨HBd.out, false, rfl, fun _ => HOK.out, fun _ => rfl⟩
    · have HN1 := hide hY
      clear hY
      obtain ⟨s0, s1, s2⟩ := HS.out _ (Below.refl _ _)
      go_region_law (first
        | (go_simp; go_at_call 42; (with_reducible refine (HV.out _ HDW.out).mono ?_); rintro e wa ⟨q, rfl, hv, hb⟩; obtain rfl : q = false := ((by cases q; rfl; exact absurd (hv.1 rfl) HN1.out)); have HBa : Hid (Below W.heap.size W wa) := HDW.out.trans hb; obtain ⟨a0, a1, a2⟩ := HS.out _ HBa.out; clear hv hb))
      all_goals
        go_wp2_with fail
        go_meet
        exact ⟨HBa.out, true, rfl, by simp, fun h => absurd h (fun h => HN1.out h.1)⟩
  case rest =>
    obtain ⟨hbx, b28, rfl, hb1, hb2⟩ := hcut
    have HBX := hide hbx
    have HW1 := hide hb1
    have HW2 := hide hb2
    clear hb1 hb2 hbx
    have HT := hide (blk_own HBX.out HT0.out)
    have HX := hide (blk_own HBX.out HX0.out)
    have HR := hide (blk_own HBX.out HRW.out)
    have H1 : Hid (Below w.heap.size w wc) := HW.out.trans (HBX.out.mono HW.out.size)
    have hwc := HBX.out.size
    clear HT0 HX0 HRW HV HFL HS HDW hb0 hb1 HLL
    have hbs := lt_block HR.out
    have s0 := cell_block HT.out 0
    have s1 := cell_block HX.out 0
    have s2 := cell_block HX.out 1
    have s3 := cell_block HR.out 0
    have s4 := froz_block HR.out 0
    cases b28 with
    | true =>
      have HNO : Hid (¬ delOk t x) := fun h => by have := HW2.out h; cases this
      have HF : Hid (Below w.heap.size w (wc.setCell ⟨w.heap.size + 2, 0, none⟩ (.slice none 0 0))) := H1.out.setCell (by simp) _
      have S3 := hide (set_block HR.out 0 (.slice none 0 0))
      have s5 := cell_block S3.out 0
      go_wp2_with fail
      all_goals go_tidy
      refine ⟨rfl, .tuple #[.agg #[.slice none 0 0], .bool false], by simp [results, Try.results27, go_sem, s5], schRet_no HNO.out HF.out⟩
    | false =>
      have HOK : Hid (delOk t x) := HW1.out rfl
      have HY : Hid (VT t) := HOK.out.1
      have hpos : 0 < t.length := by
        rcases Nat.eq_zero_or_pos t.length with h0 | h0
        · have := HOK.out.2
          rw [List.length_eq_zero_iff.1 h0] at this
          simp [flatT, hasI] at this
        · exact h0
      clear HW1 HW2
      obtain ⟨p, hpe⟩ : ∃ p, p = leafAt t x t.length := ⟨_, rfl⟩
      have hp : p < t.length := hpe ▸ leafAt_lt x hpos
      have HDT := hide (delT_eq (x := x) hpos hpe (getD_at hp))
      have HLF := hide (fun z hz => leafOf_any (.slice ta t.length tc) t x z hz HY.out.ne hpos)
      rw [← hpe] at HLF
      have hdl : (delL t[p] x).length + 1 = t[p].length := by
        have hx := hasI_leaf HY.out hpos HOK.out.2
        subst hpe
        exact delL_len1 (srt_sub HY.out.srt (List.getElem_mem _)) hx
      have hlw := (HY.out.len _ (List.getElem_mem hp)).1
      clear hpe
      go_wp2_with fail
      refine (HLF.out _ (HLV.out.keep H1.out)).mono ?_
      rintro e w5 ⟨rfl, hb⟩
      have H5 : Hid (Below w.heap.size w w5) := H1.out.trans (hb.mono H1.out.size)
      have HT5 := hide (blk_own hb HT.out)
      have HX5 := hide (blk_own hb HX.out)
      have HR5 := hide (blk_own hb HR.out)
      have hl4 := (HY.out.len _ (List.getElem_mem hp)).2
      have hlv : Lvs w (.slice ta t.length tc) t := HLV.out
      clear hb HLF HT HX HR s0 s1 s2 s3 s4 hbs H1 HBX HW hwc
      obtain ⟨ta', tc', he, htc, htc2, hd⟩ := hlv
      injection he with he1 _ he2
      subst he1; subst he2
      obtain ⟨b, off, rfl, hbb, hcell⟩ := hd.resolve_left (by rintro rfl; simp at hpos)
      have HROW : Hid (∀ i (hi : i < t.length), ∃ la lc, w.cell? ⟨b, off + i, none⟩ = some (.slice la t[i].length lc) ∧ Itms w (.slice la t[i].length lc) t[i] ∧ NilOk (.slice la t[i].length lc)) := fun i hi => by
        obtain ⟨lv, e0, hlv, hnl⟩ := hcell i hi
        obtain ⟨la, lc, rfl⟩ := itms_shape hlv
        exact ⟨la, lc, e0, hlv, hnl⟩
      obtain ⟨la, lc, e0, hlv, -⟩ := HROW.out p hp
      have e0 := (H5.out.cell hbb).trans e0
      have hlv := hlv.keep H5.out
      have HLF := hide hlv
      have hbs := lt_block HR5.out
      have hb0 : w.heap.size < w5.heap.size := by omega
      have hb1 : w.heap.size + 1 < w5.heap.size := by omega
      have hbb5 : b < w5.heap.size := by have := H5.out.size; omega
      have hp' : (p : Int) < (t.length : Int) := by omega
      clear hd hcell hlv
      obtain ⟨L, hL⟩ : ∃ L, t[p] = L := ⟨_, rfl⟩
      rw [hL] at e0 HLF hl4 HDT hdl hlw
      clear hL
      obtain ⟨E, hE⟩ : ∃ E, delL L x = E := ⟨_, rfl⟩
      have HPT := hide (fun z (hz : Below w5.heap.size w5 z) => remove_any _ L x z (HLF.out.keep hz) (by omega))
      rw [hE] at HPT HDT hdl
      have hE3 : E.length ≤ 3 := by omega
      clear hE
      have HDW : Hid (Below w5.heap.size w5 w5.drew) := (Below.refl _ _).drew
      have HS : Hid (∀ z, Below w5.heap.size w5 z → (z.cell? ⟨w.heap.size, 0, none⟩ = some (.slice (some ⟨b, off, none⟩) t.length tc) ∧ z.cell? ⟨w.heap.size + 1, 0, none⟩ = some (.int .i64 x.k) ∧ z.cell? ⟨w.heap.size + 1, 1, none⟩ = some (.int .i64 x.r) ∧ z.cell? ⟨b, off + p, none⟩ = some (.slice la L.length lc))) :=
        fun z hz => ⟨(hz.cell (p := ⟨w.heap.size, 0, none⟩) hb0).trans (cell_block HT5.out 0), (hz.cell (p := ⟨w.heap.size + 1, 0, none⟩) hb1).trans (cell_block HX5.out 0), (hz.cell (p := ⟨w.heap.size + 1, 1, none⟩) hb1).trans (cell_block HX5.out 1), (hz.cell (p := ⟨b, off + p, none⟩) hbb5).trans e0⟩
      go_wp2_with fail
      go_region_held3 (fun z => (z.cell? ⟨w.heap.size, 0, none⟩ = some (.slice (some ⟨b, off, none⟩) t.length tc) ∧ z.cell? ⟨w.heap.size + 1, 0, none⟩ = some (.int .i64 x.k) ∧ z.cell? ⟨w.heap.size + 1, 1, none⟩ = some (.int .i64 x.r) ∧ z.cell? ⟨b, off + p, none⟩ = some (.slice la L.length lc))) (first | exact HS.out _ (Below.refl _ _) | exact HS.out _ HDW.out | exact HS.out _ HB6.out) (first
        | (go_at_call 60; (with_reducible refine (HPT.out _ HDW.out).mono ?_); rintro e y6 ⟨v6, rfl, ho, hb⟩; have HB6 : Hid (Below w5.heap.size w5 y6) := HDW.out.trans hb; have HOE : Hid (OwnI w5.heap.size y6 v6 E) := ho; obtain ⟨ae, ce, rfl, -⟩ := own_slc ho; clear ho hb))
      all_goals
        have HTy := hide (blk_own HB6.out HT5.out)
        have HRy := hide (blk_own HB6.out HR5.out)
        have Hy : Hid (Below w.heap.size w y6) := H5.out.trans (HB6.out.mono H5.out.size)
        clear HPT HS HT5 HR5 HX5 HDW hb0 hb1 hbb5 hbs H5 e0 HLF
        have hbs := lt_block HRy.out
        have hbs0 : w.heap.size < y6.heap.size := by omega
        have s0 := cell_block HTy.out 0
        have s3 := cell_block HRy.out 0
        have s4 := froz_block HRy.out 0
        have HLy := hide (HLV.out.keep Hy.out)
        have ht30 : t.length ≤ 30 := HY.out.leaves
        have ht1000 : t.length ≤ 1000 := by omega
        have hls : ∀ g ∈ t, g.length ≤ 1000 := fun g hg => Nat.le_trans (HY.out.len g hg).2 (by omega)
        by_cases hA : 2 ≤ E.length ∨ t.length = 1
        · by_cases hE0 : E.length = 0
          · have ht1 : t.length = 1 := by omega
            have hp0 : p = 0 := by omega
            have HRS : Hid (delT t x = []) := by
              unfold Hid
              rw [HDT.out, if_pos hA, List.length_eq_zero_iff.1 hE0, hp0, with_one ht1]; rfl
            have ht1' : ((t.length : Int) == 1) = true := by simp [ht1]
            have hE0' : ((E.length : Int) == 0) = true := by simp [hE0]
            have HF : Hid (Below w.heap.size w (y6.setCell ⟨w.heap.size + 2, 0, none⟩ (.slice none 0 0))) := Hy.out.setCell (by simp) _
            have S3 := hide (set_block HRy.out 0 (.slice none 0 0))
            have s5 := cell_block S3.out 0
            have HF0 : Hid (SChRet w (delOk t x) (delT t x) (.returned (.tuple #[.agg #[.slice none 0 0], .bool true])) (y6.setCell ⟨w.heap.size + 2, 0, none⟩ (.slice none 0 0))) := by
              have := schRet_yes (w := w) (ok := delOk t x) (s := []) HOK.out (ownR_none _ (y6.setCell ⟨w.heap.size + 2, 0, none⟩ (.slice none 0 0))) HF.out
              rw [← HRS.out] at this
              exact this
            clear hA hE0 ht1 hp0 HDT
            go_wp2_with fail
            all_goals go_tidy
            refine ⟨rfl, .tuple #[.agg #[.slice none 0 0], .bool true], by simp [results, Try.results27, go_sem, s5], HF0.out⟩
          · have hGS : divL E = [E] := by unfold divL; rw [if_neg hE0, if_pos (by omega)]
            have HGS := hide hGS
            have HRS : Hid (delT t x = withT t p 1 E) := by unfold Hid; rw [HDT.out, if_pos hA]
            have hE0' : ((E.length : Int) == 0) = false := beq_false_of_ne (by omega)
            have hA' : ((t.length : Int) == 1) = true ∨ (((t.length : Int) == 1) = false ∧ (2 : Int) ≤ (E.length : Int)) := by
              by_cases c : t.length = 1
              · exact .inl (by simp [c])
              · exact .inr ⟨beq_false_of_ne (by omega), by omega⟩
            have HA7 : Hid (Below y6.heap.size y6 (y6.alloc (.cells #[.slice ae E.length ce] 28))) := below_box y6 _
            have HWL := hide (withLeaves1_any _ t (.slice (some ⟨y6.heap.size, 0, none⟩) 1 1) [.slice ae E.length ce] [E] p _ (HLy.out.keep HA7.out) (.inr ⟨⟨y6.heap.size, 0, none⟩, 1, rfl, World.news_of_block (cs := #[.slice ae E.length ce]) (blk_alloc y6 _)⟩) (lfs_one (HOE.out.itms.keep HA7.out) (nilOk_own HOE.out)) (by simp) ht1000 hp hls)
            rw [← HGS.out, withG_K, withK_end (by omega) hp, ← HRS.out] at HWL
            have A0 := (cell_alloc (p := ⟨w.heap.size, 0, none⟩) hbs0 (.cells #[.slice ae E.length ce] 28)).trans s0
            clear hA hE0 hGS HDT
            rcases hA' with hA' | ⟨hA', hA2⟩
            all_goals
              go_wp2_with fail
              refine HWL.out.mono ?_
              rintro e w7 ⟨v7, rfl, hl7, hb⟩
              have HB7 : Hid (Below y6.heap.size y6 w7) := HA7.out.trans (hb.mono HA7.out.size)
              have HL7 := hide (hl7.mono (B' := y6.heap.size) HA7.out.size)
              have HR7 := hide (blk_own HB7.out HRy.out)
              obtain ⟨a7, c7, rfl⟩ := hl7.nil_eq
              clear hb hl7 HWL s0 s3 s4 A0 HA7
              have D0 := cell_block HR7.out 0
              have DF := froz_block HR7.out 0
              have HF : Hid (Below w.heap.size w (w7.setCell ⟨w.heap.size + 2, 0, none⟩ (.slice a7 (delT t x).length c7))) := (Hy.out.trans (HB7.out.mono Hy.out.size)).setCell (by simp) _
              have S3 := hide (set_block HR7.out 0 (.slice a7 (delT t x).length c7))
              have s5 := cell_block S3.out 0
              have HOF := hide ((HL7.out.boxT (u := .slice a7 (delT t x).length c7) HR7.out).mono (B' := w.heap.size) (by omega))
              go_wp2_with fail
              all_goals go_tidy
              refine ⟨rfl, .tuple #[.agg #[.slice a7 (delT t x).length c7], .bool true], by simp [results, Try.results27, go_sem, s5], schRet_yes HOK.out HOF.out HF.out⟩
        · have hA1 : ((t.length : Int) == 1) = false := beq_false_of_ne (by omega)
          have hA2 : ¬ (2 : Int) ≤ (E.length : Int) := by omega
          have ht2 : 2 ≤ t.length := by omega
          have ht2' : (1 : Int) < (t.length : Int) := by omega
          rw [lowT_two ht2] at hlw
          have hE1 : 1 ≤ E.length := by omega
          have hbby : b < y6.heap.size := by omega
          have HL1 : Hid ((y6.alloc (.cells #[] 38)).ownsRow y6.heap.size 38 2 (.slice (some ⟨y6.heap.size, 0, none⟩) 0 0) 0 []) := own_lit_at rfl (Nat.le_refl _)
          have HA1 : Hid (Below y6.heap.size y6 (y6.alloc (.cells #[] 38))) := below_box y6 _
          by_cases hp0 : p = 0
          · have hp0' : ((p : Int) == 0) = true := by simp [hp0]
            have hmx : (p : Int) ≤ 1 := by omega
            have hmw : IntKind.i64.wrap ((p : Int) - 1) = (p : Int) - 1 := by rw [IntKind.wrap_i64]; omega
            obtain ⟨na, nc, n0, nit, nnl⟩ := HROW.out 1 (by omega)
            have hN4 := (HY.out.len _ (List.getElem_mem (show 1 < t.length by omega))).2
            have hN2 := (HY.out.len _ (List.getElem_mem (show 1 < t.length by omega))).1
            rw [lowT_two ht2] at hN2
            obtain ⟨D, hDD⟩ : ∃ D, E ++ t[1] = D := ⟨_, rfl⟩
            have HRS : Hid (delT t x = withT t 0 2 D) := by
              unfold Hid
              rw [HDT.out, if_neg hA, if_pos hp0, getD_at (show 1 < t.length by omega), hDD]
            have hD5 : D.length ≤ 5 := by rw [← hDD, List.length_append]; omega
            have hD1 : 1 ≤ D.length := by rw [← hDD, List.length_append]; omega
            have n0 := (Hy.out.cell hbb).trans n0
            have NIT := hide (nit.keep Hy.out)
            have NNL := hide nnl
            have HDD := hide hDD
            clear nit nnl HROW HDT hp0 hA hDD
            generalize t[1] = N at *
            go_wp2_with (at_builtin; refine wpList_copyI rfl (.tmp 61) (.tmp 62) rfl y6.heap.size y6.heap.size (by rfl) HL1.out (.slice ae E.length ce) E (by rfl) (HOE.out.itms.keep HA1.out) (nilOk_own HOE.out) (by omega) (by simp) ?next)
            case next =>
              intro g8 c8 w8 ho hg
              have HB8 : Hid (Below y6.heap.size y6 w8) := HA1.out.grown hg HA1.out.size (fun q hq => by injection hq with hq; omega)
              have HO8 := hide ho
              have A0 := (HB8.out.cell (p := ⟨w.heap.size, 0, none⟩) hbs0).trans s0
              have A1 := (HB8.out.cell (p := ⟨b, off + 1, none⟩) hbby).trans n0
              clear ho hg HA1 HL1 n0 s0 s3 s4
              go_wp2_with (at_builtin; refine wpList_appI rfl (.tmp 66) (.tmp 70) rfl y6.heap.size _ E rfl HO8.out (by omega) (.slice na N.length nc) N rfl (NIT.out.keep HB8.out) NNL.out (by omega) HB8.out.size ?next2)
              case next2 =>
                intro v9 w6 ho hg
                have HB9 : Hid (Below y6.heap.size y6 w6) := HB8.out.grown hg HB8.out.size (fun q hq => (World.ownsRow.lt HO8.out q hq).1)
                rw [HDD.out] at ho
                have HO6' := hide ho
                clear ho hg A0 A1 HO8
                obtain ⟨a6, c6, rfl, -⟩ := own_slc HO6'.out
                have HT := hide (blk_own HB9.out HTy.out)
                have HR := hide (blk_own HB9.out HRy.out)
                have H6 : Hid (Below w.heap.size w w6) := Hy.out.trans (HB9.out.mono Hy.out.size)
                have HO6 : Hid (OwnI y6.heap.size w6 (.slice a6 D.length c6) D) := HO6'.out
                have h6y := HB9.out.size
                clear HTy HRy Hy HB6 HB9 HOE HLy HO6' NIT NNL HDD hbs hbs0 hbby hmx hmw
                have hbs := lt_block HR.out
                have hbs0 : w.heap.size < w6.heap.size := by omega
                have s0 := cell_block HT.out 0
                have s3 := cell_block HR.out 0
                have s4 := froz_block HR.out 0
                have HL6 := hide (HLV.out.keep H6.out)
                by_cases h4 : D.length ≤ 4
                · have d4 : decide ((D.length : Int) ≤ 4) = true := decide_eq_true (by omega)
                  have HGS : Hid (divL D = [D]) := by unfold Hid divL; rw [if_neg (by omega), if_pos h4]
                  have HA7 : Hid (Below w6.heap.size w6 (w6.alloc (.cells #[.slice a6 D.length c6] 28))) := below_box w6 _
                  have HWL := hide (withLeaves20_any _ t (.slice (some ⟨w6.heap.size, 0, none⟩) 1 1) [.slice a6 D.length c6] [D] _ (HL6.out.keep HA7.out) (.inr ⟨⟨w6.heap.size, 0, none⟩, 1, rfl, World.news_of_block (cs := #[.slice a6 D.length c6]) (blk_alloc w6 _)⟩) (lfs_one (HO6.out.itms.keep HA7.out) (nilOk_own HO6.out)) (by simp) ht1000 hpos hls)
                  rw [← HGS.out, withG_K, withK_end (by omega) hpos, ← HRS.out] at HWL
                  have A0 := (cell_alloc (p := ⟨w.heap.size, 0, none⟩) hbs0 (.cells #[.slice a6 D.length c6] 28)).trans s0
                  clear h4
                  go_wp2_with fail
                  refine HWL.out.mono ?_
                  rintro e w7 ⟨v7, rfl, hl7, hb⟩
                  have HB7 : Hid (Below w6.heap.size w6 w7) := HA7.out.trans (hb.mono HA7.out.size)
                  have HL7 := hide (hl7.mono (B' := w6.heap.size) HA7.out.size)
                  have HR7 := hide (blk_own HB7.out HR.out)
                  obtain ⟨a7, c7, rfl⟩ := hl7.nil_eq
                  clear hb hl7 HWL s0 s3 s4 A0 HA7
                  have D0 := cell_block HR7.out 0
                  have DF := froz_block HR7.out 0
                  have HF : Hid (Below w.heap.size w (w7.setCell ⟨w.heap.size + 2, 0, none⟩ (.slice a7 (delT t x).length c7))) := (H6.out.trans (HB7.out.mono H6.out.size)).setCell (by simp) _
                  have S3 := hide (set_block HR7.out 0 (.slice a7 (delT t x).length c7))
                  have s5 := cell_block S3.out 0
                  have HOF := hide ((HL7.out.boxT (u := .slice a7 (delT t x).length c7) HR7.out).mono (B' := w.heap.size) (by omega))
                  go_wp2_with fail
                  all_goals go_tidy
                  refine ⟨rfl, .tuple #[.agg #[.slice a7 (delT t x).length c7], .bool true], by simp [results, Try.results27, go_sem, s5], schRet_yes HOK.out HOF.out HF.out⟩
                · have d4 : decide ((D.length : Int) ≤ 4) = false := decide_eq_false (by omega)
                  obtain ⟨k, hk⟩ : ∃ k, D.length / 2 = k := ⟨_, rfl⟩
                  obtain ⟨m, hm⟩ : ∃ m, D.length = k + m := ⟨D.length - k, by omega⟩
                  have HGS : Hid (divL D = [D.take k, D.drop k]) := by unfold Hid divL; rw [if_neg (by omega), if_neg h4, hk]
                  have hk0 : 0 < k := by omega
                  have hm0 : 0 < m := by omega
                  have hq : (D.length : Int).tdiv 2 = (k : Int) := by rw [← hk]; rfl
                  have hq' : (D.length : Int) / 2 = (k : Int) := by omega
                  obtain ⟨b6, off6, rfl, hI1⟩ := itms_part (i := 0) (m := k) HO6.out.itms (by omega) hk0
                  obtain ⟨b', off', he, hI2⟩ := itms_part (i := k) (m := m) HO6.out.itms (by omega) hm0
                  injection he with he
                  injection he with he1 he2 _
                  subst he1; subst he2
                  rw [List.drop_zero, Nat.zero_mul, Nat.add_zero, Nat.sub_zero] at hI1
                  rw [List.take_of_length_le (by rw [List.length_drop]; omega)] at hI2
                  have HI1 := hide hI1
                  have HI2 := hide hI2
                  have hc6 := hI1
                  have hl1 : (D.take k).length = k := by rw [List.length_take]; omega
                  have hl2 : (D.drop k).length = m := by rw [List.length_drop]; omega
                  have hcap6 : D.length ≤ c6 := by
                    obtain ⟨_, _, he, h1, -⟩ := HO6.out.itms
                    injection he with _ _ he
                    omega
                  obtain ⟨n, hnn⟩ : ∃ n, D.length = n := ⟨_, rfl⟩
                  rw [hnn] at d4 hq hq' hm hcap6 hD5 hD1
                  clear hI1 hI2 hk h4 hc6
                  generalize D.take k = f1 at *
                  generalize D.drop k = f2 at *
                  subst hl1
                  subst hl2
                  have hnm : n - f1.length = f2.length := by omega
                  have t1 : (f1.length : Int) ≤ (n : Int) := by omega
                  have t3 : ¬ c6 = f1.length := by omega
                  have t4 : f1.length ≤ c6 := by omega
                  have HN1 := hide (fun z (hz : Below w6.heap.size w6 z) => itms_newsA (HI1.out.keep hz))
                  have HN2 := hide (fun z (hz : Below w6.heap.size w6 z) => itms_newsA (HI2.out.keep hz))
                  rw [hnn]
                  have HL := hide hm
                  clear hm hnn HI1 HI2
                  have HDW : Hid (Below w6.heap.size w6 w6.drew) := (Below.refl _ _).drew
                  have HA1 : Hid (∀ o, Below w6.heap.size w6 (w6.alloc o).drew) := fun o => (below_box w6 o).drew
                  have HA2 : Hid (∀ o o', Below w6.heap.size w6 ((w6.alloc o).alloc o').drew) := fun o o' => (below_box2 w6 o o').drew
                  have HS : Hid (∀ z, Below w6.heap.size w6 z → z.cell? ⟨w.heap.size, 0, none⟩ = some (.slice (some ⟨b, off, none⟩) t.length tc)) := fun z hz => (hz.cell (p := ⟨w.heap.size, 0, none⟩) hbs0).trans (cell_block HT.out 0)
                  have HS2 : Hid (∀ z u, Below w6.heap.size w6 z → (z.setCell ⟨w.heap.size + 1 + 1, 0, none⟩ u).cell? ⟨w.heap.size, 0, none⟩ = some (.slice (some ⟨b, off, none⟩) t.length tc)) := fun z u hz => (World.cell?_of_block (a := ⟨w.heap.size, 0, none⟩) (Below.heap_setCell z ⟨w.heap.size + 1 + 1, 0, none⟩ u w.heap.size (by show w.heap.size ≠ w.heap.size + 1 + 1; omega))).trans (HS.out z hz)
                  have HWL := hide (fun (z : World) (v1 v2 : Value) (hz : Below w6.heap.size w6 z) (h1 : Itms z v1 f1) (h2 : Itms z v2 f2) (n1 : NilOk v1) (n2 : NilOk v2) => withLeaves20_any _ t (.slice (some ⟨z.heap.size, 0, none⟩) 2 2) [v1, v2] [f1, f2] _ ((HL6.out.keep hz).keep (below_box z (.cells #[v1, v2] 28))) (.inr ⟨⟨z.heap.size, 0, none⟩, 2, rfl, World.news_of_block (cs := #[v1, v2]) (blk_alloc z _)⟩) (lfs_two (h1.keep (below_box z _)) n1 (h2.keep (below_box z _)) n2) (by simp) ht1000 hpos hls)
                  rw [← HGS.out, withG_K, withK_end (by omega) hpos, ← HRS.out] at HWL
                  clear s0 HLV HL6 HY
                  go_wp2_with fail
                  go_region_held3 (fun z => z.cell? ⟨w.heap.size, 0, none⟩ = some (.slice (some ⟨b, off, none⟩) t.length tc)) (first | exact HS.out _ (Below.refl _ _) | exact HS.out _ HDW.out | exact HS.out _ (HA1.out _) | exact HS.out _ (HA2.out _ _) | exact HS.out _ HB8.out | exact HS.out _ (HB8.out.alloc HB8.out.size _) | exact HS.out _ HB9.out | exact HS.out _ (HB9.out.alloc HB9.out.size _) | exact HS.out _ HB7.out | exact HS2.out _ _ HB7.out) (first
                    | (refine step_copyI _ rfl (.tmp 95) (.tmp 98) rfl w6.heap.size _ (by rfl) (by first | exact blk_drew0 (blk_alloc w6 _) | exact blk_drew0 (blk_keep (blk_alloc w6 _) _) | exact blk_drew0 (blk_at (by simp) _)) (by omega) _ f1 _ (by rfl) (HN1.out _ (by first | exact HA1.out _ | exact HA2.out _ _)) (by omega) (by omega) (by first | exact (HA1.out _).size | exact (HA2.out _ _).size) ?_; intro g8 c8 w8 ho hg hat; have HB8 : Hid (Below w6.heap.size w6 w8) := (by first | exact (HA1.out _).grown hg (HA1.out _).size (fun q hq => by injection hq with hq; omega) | exact (HA2.out _ _).grown hg (HA2.out _ _).size (fun q hq => by injection hq with hq; omega)); have HO8 := hide ho; (first | (have HL0 := blk_drew0 (blk_at (W := w6.alloc (.cells #[] 38)) (b := w6.heap.size + 1) (by simp) (.cells #[] 38)); have HL1 := lt_block HL0; have HL2 := hide ((hg.block (w6.heap.size + 1) HL1 (by intro q; injection q with q; omega)).trans HL0); have HG8 : Hid (g8 ≠ w6.heap.size + 1) := (by unfold Hid; rcases hat with hat | hat <;> omega); clear HL0 HL1) | (have HL0 := blk_drew0 (blk_keep (blk_alloc w6 (.cells #[] 38)) (.cells #[] 38)); have HL1 := lt_block (blk_drew0 (blk_at (W := w6.alloc (.cells #[] 38)) (b := w6.heap.size + 1) (by simp) (.cells #[] 38))); have HL2 := hide ((hg.block w6.heap.size (lt_block HL0) (by intro q; injection q with q; omega)).trans HL0); have HG8 : Hid (g8 ≠ w6.heap.size) := (by unfold Hid; rcases hat with hat | hat <;> omega); clear HL0 HL1) | skip); have hlt8 : g8 < w8.heap.size := (World.ownsRow.lt ho g8 rfl).2; clear ho hg hat)
                    | (refine step_copyI _ rfl (.tmp 100) (.tmp 103) rfl w6.heap.size _ (by rfl) (by first | exact HL2.out | exact blk_alloc w8 _) (by have := HB8.out.size; omega) _ f2 _ (by rfl) (HN2.out _ (by first | exact HB8.out | exact HB8.out.alloc HB8.out.size _)) (by omega) (by omega) (by first | exact HB8.out.size | exact (HB8.out.alloc HB8.out.size _).size) ?_; intro g9 c9 w9 ho hg hat; have HB9 : Hid (Below w6.heap.size w6 w9) := (by first | exact HB8.out.grown hg HB8.out.size (fun q hq => by injection hq with hq; omega) | exact (HB8.out.alloc HB8.out.size _).grown hg (HB8.out.alloc HB8.out.size _).size (fun q hq => by injection hq with hq; have := HB8.out.size; omega)); have HO9 := hide ho.itms; have HI8 : Hid (Itms w9 (.slice (some ⟨g8, 0, none⟩) f1.length c8) f1) := (by first | exact OwnI.itms (B := w6.heap.size) (l := f1) (own_by HO8.out hg (fun q => HG8.out (by injection q))) | exact OwnI.itms (B := w6.heap.size) (l := f1) (own_by (HO8.out.alloc _) hg (fun q => by have q : g8 = w8.heap.size := (by injection q); omega))); clear ho hg hat)
                    | (go_at_call 61; (with_reducible refine (HWL.out w9 _ _ HB9.out HI8.out HO9.out nilOk_some nilOk_some).mono ?_); rintro e w7 ⟨v7, rfl, hl7, hb⟩; have HB7 : Hid (Below w6.heap.size w6 w7) := (HB9.out.alloc HB9.out.size _).trans (hb.mono (HB9.out.alloc HB9.out.size _).size); have HL7 := hide (hl7.mono (B' := w6.heap.size) (HB9.out.alloc HB9.out.size _).size); have HR7 := hide (blk_own HB7.out HR.out); obtain ⟨a7, c7, rfl⟩ := hl7.nil_eq; have D0 := cell_block HR7.out 0; have DF := froz_block HR7.out 0; clear hb hl7))
                  all_goals
                    clear HS HS2 HWL HA1 HA2 HN1 HN2 HDW
                    have HF : Hid (Below w.heap.size w (w7.setCell ⟨w.heap.size + 2, 0, none⟩ (.slice a7 (delT t x).length c7))) := (H6.out.trans (HB7.out.mono H6.out.size)).setCell (by simp) _
                    have S3 := hide (set_block HR7.out 0 (.slice a7 (delT t x).length c7))
                    have s5 := cell_block S3.out 0
                    have HOF := hide ((HL7.out.boxT (u := .slice a7 (delT t x).length c7) HR7.out).mono (B' := w.heap.size) (by omega))
                    go_wp2_with fail
                    all_goals go_tidy
                    refine ⟨rfl, .tuple #[.agg #[.slice a7 (delT t x).length c7], .bool true], by simp [results, Try.results27, go_sem, s5], schRet_yes HOK.out HOF.out HF.out⟩
          · have hp0' : ((p : Int) == 0) = false := beq_false_of_ne (by omega)
            obtain ⟨fr, hfrd⟩ : ∃ fr : Nat, p = fr + 1 := ⟨p - 1, by omega⟩
            by_cases hfz : fr = 0
            · have hsub : (p : Int) - 1 = 0 := by omega
              have hmx : (p : Int) ≤ 1 := by omega
              have hmw : (0 : Int) < (t.length : Int) := by omega
              obtain ⟨na, nc, n0, nit, nnl⟩ := HROW.out 0 hpos
              have hN4 := (HY.out.len _ (List.getElem_mem hpos)).2
              have hN2 := (HY.out.len _ (List.getElem_mem hpos)).1
              rw [lowT_two ht2] at hN2
              obtain ⟨D, hDD⟩ : ∃ D, t[0] ++ E = D := ⟨_, rfl⟩
              have HRS : Hid (delT t x = withT t 0 2 D) := by
                unfold Hid
                rw [HDT.out, if_neg hA, if_neg hp0, show p - 1 = 0 by omega, getD_at hpos, hDD]
              have hD5 : D.length ≤ 5 := by rw [← hDD, List.length_append]; omega
              have hD1 : 1 ≤ D.length := by rw [← hDD, List.length_append]; omega
              have n0 := (Hy.out.cell hbb).trans n0
              rw [Nat.add_zero] at n0
              have NIT := hide (nit.keep Hy.out)
              have NNL := hide nnl
              have HDD := hide hDD
              clear nit nnl HROW HDT hp0 hA hDD hfrd hfz
              generalize t[0] = N at *
              go_wp2_with (at_builtin; refine wpList_copyI rfl (.tmp 61) (.tmp 62) rfl y6.heap.size y6.heap.size (by rfl) HL1.out (.slice ae E.length ce) E (by rfl) (HOE.out.itms.keep HA1.out) (nilOk_own HOE.out) (by omega) (by simp) ?next)
              case next =>
                intro g8 c8 w8 ho hg
                have HB8 : Hid (Below y6.heap.size y6 w8) := HA1.out.grown hg HA1.out.size (fun q hq => by injection hq with hq; omega)
                have A0 := (HB8.out.cell (p := ⟨w.heap.size, 0, none⟩) hbs0).trans s0
                have A1 := (HB8.out.cell (p := ⟨b, off, none⟩) hbby).trans n0
                have hbs8 : w.heap.size < w8.heap.size := by have := HB8.out.size; omega
                have hbb8 : b < w8.heap.size := by have := HB8.out.size; omega
                have A2 := (cell_alloc (p := ⟨w.heap.size, 0, none⟩) hbs8 (.cells #[] 38)).trans A0
                have A3 := (cell_alloc (p := ⟨b, off, none⟩) hbb8 (.cells #[] 38)).trans A1
                have HL8 : Hid ((w8.alloc (.cells #[] 38)).ownsRow w8.heap.size 38 2 (.slice (some ⟨w8.heap.size, 0, none⟩) 0 0) 0 []) := own_lit_at rfl (Nat.le_refl _)
                have HA8 : Hid (Below w8.heap.size w8 (w8.alloc (.cells #[] 38))) := below_box w8 _
                have HB8A : Hid (Below y6.heap.size y6 (w8.alloc (.cells #[] 38))) := HB8.out.alloc HB8.out.size _
                clear ho hg HA1 HL1 n0 s0 s3 s4
                go_wp2_with (at_builtin; refine wpList_copyI rfl (.tmp 72) (.tmp 78) rfl w8.heap.size w8.heap.size (by rfl) HL8.out (.slice na N.length nc) N (by rfl) (NIT.out.keep HB8A.out) NNL.out (by omega) (by simp) ?next3)
                case next3 =>
                  intro g9 c9 w9 ho hg
                  have HB9' : Hid (Below w8.heap.size w8 w9) := HA8.out.grown hg HA8.out.size (fun q hq => by injection hq with hq; omega)
                  have HB9q : Hid (Below y6.heap.size y6 w9) := HB8.out.trans (HB9'.out.mono HB8.out.size)
                  have HO9 : Hid (OwnI y6.heap.size w9 (.slice (some ⟨g9, 0, none⟩) N.length c9) N) := own_mono ho HB8.out.size
                  clear ho hg A0 A1 A2 A3 HL8 HA8
                  go_wp2_with (at_builtin; refine wpList_appI rfl (.tmp 79) (.tmp 80) rfl y6.heap.size _ N rfl HO9.out (by omega) (.slice ae E.length ce) E rfl (HOE.out.itms.keep HB9q.out) (nilOk_own HOE.out) (by omega) HB9q.out.size ?next4)
                  case next4 =>
                    intro v9 w6 ho hg
                    have HB9 : Hid (Below y6.heap.size y6 w6) := HB9q.out.grown hg HB9q.out.size (fun q hq => (World.ownsRow.lt HO9.out q hq).1)
                    rw [HDD.out] at ho
                    have HO6' := hide ho
                    clear ho hg HO9
                    obtain ⟨a6, c6, rfl, -⟩ := own_slc HO6'.out
                    have HT := hide (blk_own HB9.out HTy.out)
                    have HR := hide (blk_own HB9.out HRy.out)
                    have H6 : Hid (Below w.heap.size w w6) := Hy.out.trans (HB9.out.mono Hy.out.size)
                    have HO6 : Hid (OwnI y6.heap.size w6 (.slice a6 D.length c6) D) := HO6'.out
                    have h6y := HB9.out.size
                    clear HTy HRy Hy HB6 HB9 HOE HLy HO6' NIT NNL HDD hbs hbs0 hbby hmx hmw
                    have hbs := lt_block HR.out
                    have hbs0 : w.heap.size < w6.heap.size := by omega
                    have s0 := cell_block HT.out 0
                    have s3 := cell_block HR.out 0
                    have s4 := froz_block HR.out 0
                    have HL6 := hide (HLV.out.keep H6.out)
                    by_cases h4 : D.length ≤ 4
                    · have d4 : decide ((D.length : Int) ≤ 4) = true := decide_eq_true (by omega)
                      have HGS : Hid (divL D = [D]) := by unfold Hid divL; rw [if_neg (by omega), if_pos h4]
                      have HA7 : Hid (Below w6.heap.size w6 (w6.alloc (.cells #[.slice a6 D.length c6] 28))) := below_box w6 _
                      have HWL := hide (withLeaves20_any _ t (.slice (some ⟨w6.heap.size, 0, none⟩) 1 1) [.slice a6 D.length c6] [D] _ (HL6.out.keep HA7.out) (.inr ⟨⟨w6.heap.size, 0, none⟩, 1, rfl, World.news_of_block (cs := #[.slice a6 D.length c6]) (blk_alloc w6 _)⟩) (lfs_one (HO6.out.itms.keep HA7.out) (nilOk_own HO6.out)) (by simp) ht1000 hpos hls)
                      rw [← HGS.out, withG_K, withK_end (by omega) hpos, ← HRS.out] at HWL
                      have A0 := (cell_alloc (p := ⟨w.heap.size, 0, none⟩) hbs0 (.cells #[.slice a6 D.length c6] 28)).trans s0
                      clear h4
                      go_wp2_with fail
                      refine HWL.out.mono ?_
                      rintro e w7 ⟨v7, rfl, hl7, hb⟩
                      have HB7 : Hid (Below w6.heap.size w6 w7) := HA7.out.trans (hb.mono HA7.out.size)
                      have HL7 := hide (hl7.mono (B' := w6.heap.size) HA7.out.size)
                      have HR7 := hide (blk_own HB7.out HR.out)
                      obtain ⟨a7, c7, rfl⟩ := hl7.nil_eq
                      clear hb hl7 HWL s0 s3 s4 A0 HA7
                      have D0 := cell_block HR7.out 0
                      have DF := froz_block HR7.out 0
                      have HF : Hid (Below w.heap.size w (w7.setCell ⟨w.heap.size + 2, 0, none⟩ (.slice a7 (delT t x).length c7))) := (H6.out.trans (HB7.out.mono H6.out.size)).setCell (by simp) _
                      have S3 := hide (set_block HR7.out 0 (.slice a7 (delT t x).length c7))
                      have s5 := cell_block S3.out 0
                      have HOF := hide ((HL7.out.boxT (u := .slice a7 (delT t x).length c7) HR7.out).mono (B' := w.heap.size) (by omega))
                      go_wp2_with fail
                      all_goals go_tidy
                      refine ⟨rfl, .tuple #[.agg #[.slice a7 (delT t x).length c7], .bool true], by simp [results, Try.results27, go_sem, s5], schRet_yes HOK.out HOF.out HF.out⟩
                    · have d4 : decide ((D.length : Int) ≤ 4) = false := decide_eq_false (by omega)
                      obtain ⟨k, hk⟩ : ∃ k, D.length / 2 = k := ⟨_, rfl⟩
                      obtain ⟨m, hm⟩ : ∃ m, D.length = k + m := ⟨D.length - k, by omega⟩
                      have HGS : Hid (divL D = [D.take k, D.drop k]) := by unfold Hid divL; rw [if_neg (by omega), if_neg h4, hk]
                      have hk0 : 0 < k := by omega
                      have hm0 : 0 < m := by omega
                      have hq : (D.length : Int).tdiv 2 = (k : Int) := by rw [← hk]; rfl
                      have hq' : (D.length : Int) / 2 = (k : Int) := by omega
                      obtain ⟨b6, off6, rfl, hI1⟩ := itms_part (i := 0) (m := k) HO6.out.itms (by omega) hk0
                      obtain ⟨b', off', he, hI2⟩ := itms_part (i := k) (m := m) HO6.out.itms (by omega) hm0
                      injection he with he
                      injection he with he1 he2 _
                      subst he1; subst he2
                      rw [List.drop_zero, Nat.zero_mul, Nat.add_zero, Nat.sub_zero] at hI1
                      rw [List.take_of_length_le (by rw [List.length_drop]; omega)] at hI2
                      have HI1 := hide hI1
                      have HI2 := hide hI2
                      have hc6 := hI1
                      have hl1 : (D.take k).length = k := by rw [List.length_take]; omega
                      have hl2 : (D.drop k).length = m := by rw [List.length_drop]; omega
                      have hcap6 : D.length ≤ c6 := by
                        obtain ⟨_, _, he, h1, -⟩ := HO6.out.itms
                        injection he with _ _ he
                        omega
                      obtain ⟨n, hnn⟩ : ∃ n, D.length = n := ⟨_, rfl⟩
                      rw [hnn] at d4 hq hq' hm hcap6 hD5 hD1
                      clear hI1 hI2 hk h4 hc6
                      generalize D.take k = f1 at *
                      generalize D.drop k = f2 at *
                      subst hl1
                      subst hl2
                      have hnm : n - f1.length = f2.length := by omega
                      have t1 : (f1.length : Int) ≤ (n : Int) := by omega
                      have t3 : ¬ c6 = f1.length := by omega
                      have t4 : f1.length ≤ c6 := by omega
                      have HN1 := hide (fun z (hz : Below w6.heap.size w6 z) => itms_newsA (HI1.out.keep hz))
                      have HN2 := hide (fun z (hz : Below w6.heap.size w6 z) => itms_newsA (HI2.out.keep hz))
                      rw [hnn]
                      have HL := hide hm
                      clear hm hnn HI1 HI2
                      have HDW : Hid (Below w6.heap.size w6 w6.drew) := (Below.refl _ _).drew
                      have HA1 : Hid (∀ o, Below w6.heap.size w6 (w6.alloc o).drew) := fun o => (below_box w6 o).drew
                      have HA2 : Hid (∀ o o', Below w6.heap.size w6 ((w6.alloc o).alloc o').drew) := fun o o' => (below_box2 w6 o o').drew
                      have HS : Hid (∀ z, Below w6.heap.size w6 z → z.cell? ⟨w.heap.size, 0, none⟩ = some (.slice (some ⟨b, off, none⟩) t.length tc)) := fun z hz => (hz.cell (p := ⟨w.heap.size, 0, none⟩) hbs0).trans (cell_block HT.out 0)
                      have HS2 : Hid (∀ z u, Below w6.heap.size w6 z → (z.setCell ⟨w.heap.size + 1 + 1, 0, none⟩ u).cell? ⟨w.heap.size, 0, none⟩ = some (.slice (some ⟨b, off, none⟩) t.length tc)) := fun z u hz => (World.cell?_of_block (a := ⟨w.heap.size, 0, none⟩) (Below.heap_setCell z ⟨w.heap.size + 1 + 1, 0, none⟩ u w.heap.size (by show w.heap.size ≠ w.heap.size + 1 + 1; omega))).trans (HS.out z hz)
                      have HWL := hide (fun (z : World) (v1 v2 : Value) (hz : Below w6.heap.size w6 z) (h1 : Itms z v1 f1) (h2 : Itms z v2 f2) (n1 : NilOk v1) (n2 : NilOk v2) => withLeaves20_any _ t (.slice (some ⟨z.heap.size, 0, none⟩) 2 2) [v1, v2] [f1, f2] _ ((HL6.out.keep hz).keep (below_box z (.cells #[v1, v2] 28))) (.inr ⟨⟨z.heap.size, 0, none⟩, 2, rfl, World.news_of_block (cs := #[v1, v2]) (blk_alloc z _)⟩) (lfs_two (h1.keep (below_box z _)) n1 (h2.keep (below_box z _)) n2) (by simp) ht1000 hpos hls)
                      rw [← HGS.out, withG_K, withK_end (by omega) hpos, ← HRS.out] at HWL
                      clear s0 HLV HL6 HY
                      go_wp2_with fail
                      go_region_held3 (fun z => z.cell? ⟨w.heap.size, 0, none⟩ = some (.slice (some ⟨b, off, none⟩) t.length tc)) (first | exact HS.out _ (Below.refl _ _) | exact HS.out _ HDW.out | exact HS.out _ (HA1.out _) | exact HS.out _ (HA2.out _ _) | exact HS.out _ HB8.out | exact HS.out _ (HB8.out.alloc HB8.out.size _) | exact HS.out _ HB9.out | exact HS.out _ (HB9.out.alloc HB9.out.size _) | exact HS.out _ HB7.out | exact HS2.out _ _ HB7.out) (first
                        | (refine step_copyI _ rfl (.tmp 95) (.tmp 98) rfl w6.heap.size _ (by rfl) (by first | exact blk_drew0 (blk_alloc w6 _) | exact blk_drew0 (blk_keep (blk_alloc w6 _) _) | exact blk_drew0 (blk_at (by simp) _)) (by omega) _ f1 _ (by rfl) (HN1.out _ (by first | exact HA1.out _ | exact HA2.out _ _)) (by omega) (by omega) (by first | exact (HA1.out _).size | exact (HA2.out _ _).size) ?_; intro g8 c8 w8 ho hg hat; have HB8 : Hid (Below w6.heap.size w6 w8) := (by first | exact (HA1.out _).grown hg (HA1.out _).size (fun q hq => by injection hq with hq; omega) | exact (HA2.out _ _).grown hg (HA2.out _ _).size (fun q hq => by injection hq with hq; omega)); have HO8 := hide ho; (first | (have HL0 := blk_drew0 (blk_at (W := w6.alloc (.cells #[] 38)) (b := w6.heap.size + 1) (by simp) (.cells #[] 38)); have HL1 := lt_block HL0; have HL2 := hide ((hg.block (w6.heap.size + 1) HL1 (by intro q; injection q with q; omega)).trans HL0); have HG8 : Hid (g8 ≠ w6.heap.size + 1) := (by unfold Hid; rcases hat with hat | hat <;> omega); clear HL0 HL1) | (have HL0 := blk_drew0 (blk_keep (blk_alloc w6 (.cells #[] 38)) (.cells #[] 38)); have HL1 := lt_block (blk_drew0 (blk_at (W := w6.alloc (.cells #[] 38)) (b := w6.heap.size + 1) (by simp) (.cells #[] 38))); have HL2 := hide ((hg.block w6.heap.size (lt_block HL0) (by intro q; injection q with q; omega)).trans HL0); have HG8 : Hid (g8 ≠ w6.heap.size) := (by unfold Hid; rcases hat with hat | hat <;> omega); clear HL0 HL1) | skip); have hlt8 : g8 < w8.heap.size := (World.ownsRow.lt ho g8 rfl).2; clear ho hg hat)
                        | (refine step_copyI _ rfl (.tmp 100) (.tmp 103) rfl w6.heap.size _ (by rfl) (by first | exact HL2.out | exact blk_alloc w8 _) (by have := HB8.out.size; omega) _ f2 _ (by rfl) (HN2.out _ (by first | exact HB8.out | exact HB8.out.alloc HB8.out.size _)) (by omega) (by omega) (by first | exact HB8.out.size | exact (HB8.out.alloc HB8.out.size _).size) ?_; intro g9 c9 w9 ho hg hat; have HB9 : Hid (Below w6.heap.size w6 w9) := (by first | exact HB8.out.grown hg HB8.out.size (fun q hq => by injection hq with hq; omega) | exact (HB8.out.alloc HB8.out.size _).grown hg (HB8.out.alloc HB8.out.size _).size (fun q hq => by injection hq with hq; have := HB8.out.size; omega)); have HO9 := hide ho.itms; have HI8 : Hid (Itms w9 (.slice (some ⟨g8, 0, none⟩) f1.length c8) f1) := (by first | exact OwnI.itms (B := w6.heap.size) (l := f1) (own_by HO8.out hg (fun q => HG8.out (by injection q))) | exact OwnI.itms (B := w6.heap.size) (l := f1) (own_by (HO8.out.alloc _) hg (fun q => by have q : g8 = w8.heap.size := (by injection q); omega))); clear ho hg hat)
                        | (go_at_call 61; (with_reducible refine (HWL.out w9 _ _ HB9.out HI8.out HO9.out nilOk_some nilOk_some).mono ?_); rintro e w7 ⟨v7, rfl, hl7, hb⟩; have HB7 : Hid (Below w6.heap.size w6 w7) := (HB9.out.alloc HB9.out.size _).trans (hb.mono (HB9.out.alloc HB9.out.size _).size); have HL7 := hide (hl7.mono (B' := w6.heap.size) (HB9.out.alloc HB9.out.size _).size); have HR7 := hide (blk_own HB7.out HR.out); obtain ⟨a7, c7, rfl⟩ := hl7.nil_eq; have D0 := cell_block HR7.out 0; have DF := froz_block HR7.out 0; clear hb hl7))
                      all_goals
                        clear HS HS2 HWL HA1 HA2 HN1 HN2 HDW
                        have HF : Hid (Below w.heap.size w (w7.setCell ⟨w.heap.size + 2, 0, none⟩ (.slice a7 (delT t x).length c7))) := (H6.out.trans (HB7.out.mono H6.out.size)).setCell (by simp) _
                        have S3 := hide (set_block HR7.out 0 (.slice a7 (delT t x).length c7))
                        have s5 := cell_block S3.out 0
                        have HOF := hide ((HL7.out.boxT (u := .slice a7 (delT t x).length c7) HR7.out).mono (B' := w.heap.size) (by omega))
                        go_wp2_with fail
                        all_goals go_tidy
                        refine ⟨rfl, .tuple #[.agg #[.slice a7 (delT t x).length c7], .bool true], by simp [results, Try.results27, go_sem, s5], schRet_yes HOK.out HOF.out HF.out⟩
            · have hsub : (p : Int) - 1 = (fr : Int) := by omega
              have hmx : 0 < fr := by omega
              have hmx1 : ¬ (p : Int) ≤ 1 := by omega
              have hmx2 : (1 : Int) < (p : Int) := by omega
              have hmw : IntKind.i64.wrap (fr : Int) = (fr : Int) := by rw [IntKind.wrap_i64]; omega
              have hfr : fr < t.length := by omega
              have hfr' : (fr : Int) < (t.length : Int) := by omega
              obtain ⟨na, nc, n0, nit, nnl⟩ := HROW.out fr hfr
              have hN4 := (HY.out.len _ (List.getElem_mem hfr)).2
              have hN2 := (HY.out.len _ (List.getElem_mem hfr)).1
              rw [lowT_two ht2] at hN2
              obtain ⟨D, hDD⟩ : ∃ D, t[fr] ++ E = D := ⟨_, rfl⟩
              have HRS : Hid (delT t x = withT t fr 2 D) := by
                unfold Hid
                rw [HDT.out, if_neg hA, if_neg hp0, show p - 1 = fr by omega, getD_at hfr, hDD]
              have hD5 : D.length ≤ 5 := by rw [← hDD, List.length_append]; omega
              have hD1 : 1 ≤ D.length := by rw [← hDD, List.length_append]; omega
              have n0 := (Hy.out.cell hbb).trans n0
              have NIT := hide (nit.keep Hy.out)
              have NNL := hide nnl
              have HDD := hide hDD
              clear nit nnl HROW HDT hp0 hA hDD hfrd hfz
              generalize t[fr] = N at *
              go_wp2_with (at_builtin; refine wpList_copyI rfl (.tmp 61) (.tmp 62) rfl y6.heap.size y6.heap.size (by rfl) HL1.out (.slice ae E.length ce) E (by rfl) (HOE.out.itms.keep HA1.out) (nilOk_own HOE.out) (by omega) (by simp) ?next)
              case next =>
                intro g8 c8 w8 ho hg
                have HB8 : Hid (Below y6.heap.size y6 w8) := HA1.out.grown hg HA1.out.size (fun q hq => by injection hq with hq; omega)
                have A0 := (HB8.out.cell (p := ⟨w.heap.size, 0, none⟩) hbs0).trans s0
                have A1 := (HB8.out.cell (p := ⟨b, off + fr, none⟩) hbby).trans n0
                have hbs8 : w.heap.size < w8.heap.size := by have := HB8.out.size; omega
                have hbb8 : b < w8.heap.size := by have := HB8.out.size; omega
                have A2 := (cell_alloc (p := ⟨w.heap.size, 0, none⟩) hbs8 (.cells #[] 38)).trans A0
                have A3 := (cell_alloc (p := ⟨b, off + fr, none⟩) hbb8 (.cells #[] 38)).trans A1
                have HL8 : Hid ((w8.alloc (.cells #[] 38)).ownsRow w8.heap.size 38 2 (.slice (some ⟨w8.heap.size, 0, none⟩) 0 0) 0 []) := own_lit_at rfl (Nat.le_refl _)
                have HA8 : Hid (Below w8.heap.size w8 (w8.alloc (.cells #[] 38))) := below_box w8 _
                have HB8A : Hid (Below y6.heap.size y6 (w8.alloc (.cells #[] 38))) := HB8.out.alloc HB8.out.size _
                clear ho hg HA1 HL1 n0 s0 s3 s4
                go_wp2_with (at_builtin; refine wpList_copyI rfl (.tmp 72) (.tmp 78) rfl w8.heap.size w8.heap.size (by rfl) HL8.out (.slice na N.length nc) N (by rfl) (NIT.out.keep HB8A.out) NNL.out (by omega) (by simp) ?next3)
                case next3 =>
                  intro g9 c9 w9 ho hg
                  have HB9' : Hid (Below w8.heap.size w8 w9) := HA8.out.grown hg HA8.out.size (fun q hq => by injection hq with hq; omega)
                  have HB9q : Hid (Below y6.heap.size y6 w9) := HB8.out.trans (HB9'.out.mono HB8.out.size)
                  have HO9 : Hid (OwnI y6.heap.size w9 (.slice (some ⟨g9, 0, none⟩) N.length c9) N) := own_mono ho HB8.out.size
                  clear ho hg A0 A1 A2 A3 HL8 HA8
                  go_wp2_with (at_builtin; refine wpList_appI rfl (.tmp 79) (.tmp 80) rfl y6.heap.size _ N rfl HO9.out (by omega) (.slice ae E.length ce) E rfl (HOE.out.itms.keep HB9q.out) (nilOk_own HOE.out) (by omega) HB9q.out.size ?next4)
                  case next4 =>
                    intro v9 w6 ho hg
                    have HB9 : Hid (Below y6.heap.size y6 w6) := HB9q.out.grown hg HB9q.out.size (fun q hq => (World.ownsRow.lt HO9.out q hq).1)
                    rw [HDD.out] at ho
                    have HO6' := hide ho
                    clear ho hg HO9
                    obtain ⟨a6, c6, rfl, -⟩ := own_slc HO6'.out
                    have HT := hide (blk_own HB9.out HTy.out)
                    have HR := hide (blk_own HB9.out HRy.out)
                    have H6 : Hid (Below w.heap.size w w6) := Hy.out.trans (HB9.out.mono Hy.out.size)
                    have HO6 : Hid (OwnI y6.heap.size w6 (.slice a6 D.length c6) D) := HO6'.out
                    have h6y := HB9.out.size
                    clear HTy HRy Hy HB6 HB9 HOE HLy HO6' NIT NNL HDD hbs hbs0 hbby hmx hmw hmx1 hmx2
                    have hbs := lt_block HR.out
                    have hbs0 : w.heap.size < w6.heap.size := by omega
                    have s0 := cell_block HT.out 0
                    have s3 := cell_block HR.out 0
                    have s4 := froz_block HR.out 0
                    have HL6 := hide (HLV.out.keep H6.out)
                    by_cases h4 : D.length ≤ 4
                    · have d4 : decide ((D.length : Int) ≤ 4) = true := decide_eq_true (by omega)
                      have HGS : Hid (divL D = [D]) := by unfold Hid divL; rw [if_neg (by omega), if_pos h4]
                      have HA7 : Hid (Below w6.heap.size w6 (w6.alloc (.cells #[.slice a6 D.length c6] 28))) := below_box w6 _
                      have HWL := hide (withLeaves2_any _ t (.slice (some ⟨w6.heap.size, 0, none⟩) 1 1) [.slice a6 D.length c6] [D] fr _ (HL6.out.keep HA7.out) (.inr ⟨⟨w6.heap.size, 0, none⟩, 1, rfl, World.news_of_block (cs := #[.slice a6 D.length c6]) (blk_alloc w6 _)⟩) (lfs_one (HO6.out.itms.keep HA7.out) (nilOk_own HO6.out)) (by simp) ht1000 hfr hls)
                      rw [← HGS.out, withG_K, withK_end (by omega) hfr, ← HRS.out] at HWL
                      have A0 := (cell_alloc (p := ⟨w.heap.size, 0, none⟩) hbs0 (.cells #[.slice a6 D.length c6] 28)).trans s0
                      clear h4
                      go_wp2_with fail
                      refine HWL.out.mono ?_
                      rintro e w7 ⟨v7, rfl, hl7, hb⟩
                      have HB7 : Hid (Below w6.heap.size w6 w7) := HA7.out.trans (hb.mono HA7.out.size)
                      have HL7 := hide (hl7.mono (B' := w6.heap.size) HA7.out.size)
                      have HR7 := hide (blk_own HB7.out HR.out)
                      obtain ⟨a7, c7, rfl⟩ := hl7.nil_eq
                      clear hb hl7 HWL s0 s3 s4 A0 HA7
                      have D0 := cell_block HR7.out 0
                      have DF := froz_block HR7.out 0
                      have HF : Hid (Below w.heap.size w (w7.setCell ⟨w.heap.size + 2, 0, none⟩ (.slice a7 (delT t x).length c7))) := (H6.out.trans (HB7.out.mono H6.out.size)).setCell (by simp) _
                      have S3 := hide (set_block HR7.out 0 (.slice a7 (delT t x).length c7))
                      have s5 := cell_block S3.out 0
                      have HOF := hide ((HL7.out.boxT (u := .slice a7 (delT t x).length c7) HR7.out).mono (B' := w.heap.size) (by omega))
                      go_wp2_with fail
                      all_goals go_tidy
                      refine ⟨rfl, .tuple #[.agg #[.slice a7 (delT t x).length c7], .bool true], by simp [results, Try.results27, go_sem, s5], schRet_yes HOK.out HOF.out HF.out⟩
                    · have d4 : decide ((D.length : Int) ≤ 4) = false := decide_eq_false (by omega)
                      obtain ⟨k, hk⟩ : ∃ k, D.length / 2 = k := ⟨_, rfl⟩
                      obtain ⟨m, hm⟩ : ∃ m, D.length = k + m := ⟨D.length - k, by omega⟩
                      have HGS : Hid (divL D = [D.take k, D.drop k]) := by unfold Hid divL; rw [if_neg (by omega), if_neg h4, hk]
                      have hk0 : 0 < k := by omega
                      have hm0 : 0 < m := by omega
                      have hq : (D.length : Int).tdiv 2 = (k : Int) := by rw [← hk]; rfl
                      have hq' : (D.length : Int) / 2 = (k : Int) := by omega
                      obtain ⟨b6, off6, rfl, hI1⟩ := itms_part (i := 0) (m := k) HO6.out.itms (by omega) hk0
                      obtain ⟨b', off', he, hI2⟩ := itms_part (i := k) (m := m) HO6.out.itms (by omega) hm0
                      injection he with he
                      injection he with he1 he2 _
                      subst he1; subst he2
                      rw [List.drop_zero, Nat.zero_mul, Nat.add_zero, Nat.sub_zero] at hI1
                      rw [List.take_of_length_le (by rw [List.length_drop]; omega)] at hI2
                      have HI1 := hide hI1
                      have HI2 := hide hI2
                      have hc6 := hI1
                      have hl1 : (D.take k).length = k := by rw [List.length_take]; omega
                      have hl2 : (D.drop k).length = m := by rw [List.length_drop]; omega
                      have hcap6 : D.length ≤ c6 := by
                        obtain ⟨_, _, he, h1, -⟩ := HO6.out.itms
                        injection he with _ _ he
                        omega
                      obtain ⟨n, hnn⟩ : ∃ n, D.length = n := ⟨_, rfl⟩
                      rw [hnn] at d4 hq hq' hm hcap6 hD5 hD1
                      clear hI1 hI2 hk h4 hc6
                      generalize D.take k = f1 at *
                      generalize D.drop k = f2 at *
                      subst hl1
                      subst hl2
                      have hnm : n - f1.length = f2.length := by omega
                      have t1 : (f1.length : Int) ≤ (n : Int) := by omega
                      have t3 : ¬ c6 = f1.length := by omega
                      have t4 : f1.length ≤ c6 := by omega
                      have HN1 := hide (fun z (hz : Below w6.heap.size w6 z) => itms_newsA (HI1.out.keep hz))
                      have HN2 := hide (fun z (hz : Below w6.heap.size w6 z) => itms_newsA (HI2.out.keep hz))
                      rw [hnn]
                      have HL := hide hm
                      clear hm hnn HI1 HI2
                      have HDW : Hid (Below w6.heap.size w6 w6.drew) := (Below.refl _ _).drew
                      have HA1 : Hid (∀ o, Below w6.heap.size w6 (w6.alloc o).drew) := fun o => (below_box w6 o).drew
                      have HA2 : Hid (∀ o o', Below w6.heap.size w6 ((w6.alloc o).alloc o').drew) := fun o o' => (below_box2 w6 o o').drew
                      have HS : Hid (∀ z, Below w6.heap.size w6 z → z.cell? ⟨w.heap.size, 0, none⟩ = some (.slice (some ⟨b, off, none⟩) t.length tc)) := fun z hz => (hz.cell (p := ⟨w.heap.size, 0, none⟩) hbs0).trans (cell_block HT.out 0)
                      have HS2 : Hid (∀ z u, Below w6.heap.size w6 z → (z.setCell ⟨w.heap.size + 1 + 1, 0, none⟩ u).cell? ⟨w.heap.size, 0, none⟩ = some (.slice (some ⟨b, off, none⟩) t.length tc)) := fun z u hz => (World.cell?_of_block (a := ⟨w.heap.size, 0, none⟩) (Below.heap_setCell z ⟨w.heap.size + 1 + 1, 0, none⟩ u w.heap.size (by show w.heap.size ≠ w.heap.size + 1 + 1; omega))).trans (HS.out z hz)
                      have HWL := hide (fun (z : World) (v1 v2 : Value) (hz : Below w6.heap.size w6 z) (h1 : Itms z v1 f1) (h2 : Itms z v2 f2) (n1 : NilOk v1) (n2 : NilOk v2) => withLeaves2_any _ t (.slice (some ⟨z.heap.size, 0, none⟩) 2 2) [v1, v2] [f1, f2] fr _ ((HL6.out.keep hz).keep (below_box z (.cells #[v1, v2] 28))) (.inr ⟨⟨z.heap.size, 0, none⟩, 2, rfl, World.news_of_block (cs := #[v1, v2]) (blk_alloc z _)⟩) (lfs_two (h1.keep (below_box z _)) n1 (h2.keep (below_box z _)) n2) (by simp) ht1000 hfr hls)
                      rw [← HGS.out, withG_K, withK_end (by omega) hfr, ← HRS.out] at HWL
                      clear s0 HLV HL6 HY
                      go_wp2_with fail
                      go_region_held3 (fun z => z.cell? ⟨w.heap.size, 0, none⟩ = some (.slice (some ⟨b, off, none⟩) t.length tc)) (first | exact HS.out _ (Below.refl _ _) | exact HS.out _ HDW.out | exact HS.out _ (HA1.out _) | exact HS.out _ (HA2.out _ _) | exact HS.out _ HB8.out | exact HS.out _ (HB8.out.alloc HB8.out.size _) | exact HS.out _ HB9.out | exact HS.out _ (HB9.out.alloc HB9.out.size _) | exact HS.out _ HB7.out | exact HS2.out _ _ HB7.out) (first
                        | (refine step_copyI _ rfl (.tmp 95) (.tmp 98) rfl w6.heap.size _ (by rfl) (by first | exact blk_drew0 (blk_alloc w6 _) | exact blk_drew0 (blk_keep (blk_alloc w6 _) _) | exact blk_drew0 (blk_at (by simp) _)) (by omega) _ f1 _ (by rfl) (HN1.out _ (by first | exact HA1.out _ | exact HA2.out _ _)) (by omega) (by omega) (by first | exact (HA1.out _).size | exact (HA2.out _ _).size) ?_; intro g8 c8 w8 ho hg hat; have HB8 : Hid (Below w6.heap.size w6 w8) := (by first | exact (HA1.out _).grown hg (HA1.out _).size (fun q hq => by injection hq with hq; omega) | exact (HA2.out _ _).grown hg (HA2.out _ _).size (fun q hq => by injection hq with hq; omega)); have HO8 := hide ho; (first | (have HL0 := blk_drew0 (blk_at (W := w6.alloc (.cells #[] 38)) (b := w6.heap.size + 1) (by simp) (.cells #[] 38)); have HL1 := lt_block HL0; have HL2 := hide ((hg.block (w6.heap.size + 1) HL1 (by intro q; injection q with q; omega)).trans HL0); have HG8 : Hid (g8 ≠ w6.heap.size + 1) := (by unfold Hid; rcases hat with hat | hat <;> omega); clear HL0 HL1) | (have HL0 := blk_drew0 (blk_keep (blk_alloc w6 (.cells #[] 38)) (.cells #[] 38)); have HL1 := lt_block (blk_drew0 (blk_at (W := w6.alloc (.cells #[] 38)) (b := w6.heap.size + 1) (by simp) (.cells #[] 38))); have HL2 := hide ((hg.block w6.heap.size (lt_block HL0) (by intro q; injection q with q; omega)).trans HL0); have HG8 : Hid (g8 ≠ w6.heap.size) := (by unfold Hid; rcases hat with hat | hat <;> omega); clear HL0 HL1) | skip); have hlt8 : g8 < w8.heap.size := (World.ownsRow.lt ho g8 rfl).2; clear ho hg hat)
                        | (refine step_copyI _ rfl (.tmp 100) (.tmp 103) rfl w6.heap.size _ (by rfl) (by first | exact HL2.out | exact blk_alloc w8 _) (by have := HB8.out.size; omega) _ f2 _ (by rfl) (HN2.out _ (by first | exact HB8.out | exact HB8.out.alloc HB8.out.size _)) (by omega) (by omega) (by first | exact HB8.out.size | exact (HB8.out.alloc HB8.out.size _).size) ?_; intro g9 c9 w9 ho hg hat; have HB9 : Hid (Below w6.heap.size w6 w9) := (by first | exact HB8.out.grown hg HB8.out.size (fun q hq => by injection hq with hq; omega) | exact (HB8.out.alloc HB8.out.size _).grown hg (HB8.out.alloc HB8.out.size _).size (fun q hq => by injection hq with hq; have := HB8.out.size; omega)); have HO9 := hide ho.itms; have HI8 : Hid (Itms w9 (.slice (some ⟨g8, 0, none⟩) f1.length c8) f1) := (by first | exact OwnI.itms (B := w6.heap.size) (l := f1) (own_by HO8.out hg (fun q => HG8.out (by injection q))) | exact OwnI.itms (B := w6.heap.size) (l := f1) (own_by (HO8.out.alloc _) hg (fun q => by have q : g8 = w8.heap.size := (by injection q); omega))); clear ho hg hat)
                        | (go_at_call 61; (with_reducible refine (HWL.out w9 _ _ HB9.out HI8.out HO9.out nilOk_some nilOk_some).mono ?_); rintro e w7 ⟨v7, rfl, hl7, hb⟩; have HB7 : Hid (Below w6.heap.size w6 w7) := (HB9.out.alloc HB9.out.size _).trans (hb.mono (HB9.out.alloc HB9.out.size _).size); have HL7 := hide (hl7.mono (B' := w6.heap.size) (HB9.out.alloc HB9.out.size _).size); have HR7 := hide (blk_own HB7.out HR.out); obtain ⟨a7, c7, rfl⟩ := hl7.nil_eq; have D0 := cell_block HR7.out 0; have DF := froz_block HR7.out 0; clear hb hl7))
                      all_goals
                        clear HS HS2 HWL HA1 HA2 HN1 HN2 HDW
                        have HF : Hid (Below w.heap.size w (w7.setCell ⟨w.heap.size + 2, 0, none⟩ (.slice a7 (delT t x).length c7))) := (H6.out.trans (HB7.out.mono H6.out.size)).setCell (by simp) _
                        have S3 := hide (set_block HR7.out 0 (.slice a7 (delT t x).length c7))
                        have s5 := cell_block S3.out 0
                        have HOF := hide ((HL7.out.boxT (u := .slice a7 (delT t x).length c7) HR7.out).mono (B' := w.heap.size) (by omega))
                        go_wp2_with fail
                        all_goals go_tidy
                        refine ⟨rfl, .tuple #[.agg #[.slice a7 (delT t x).length c7], .bool true], by simp [results, Try.results27, go_sem, s5], schRet_yes HOK.out HOF.out HF.out⟩
end Go.Proofs.Ytmlphdniiiijpaa
