/-
  TreeDelete of the program.
-/
import Derived.Test.YtmlphdniiiijpaaTreeJ
set_option linter.all false
namespace Go.Proofs.Ytmlphdniiiijpaa
open Go.RowKit
def delOk (t : List (List Itm)) (x : Itm) : Prop := VT t ∧ hasI (flatT t) x = true
theorem VT.nil : VT [] := ⟨fun f hf => by simp at hf, by simp [flatT], fun i hi => by simp [flatT] at hi⟩
theorem getD_at' {t : List (List Itm)} {p : Nat} (h : p < t.length) : t.getD p [] = t[p] := getD_at h
theorem delT_pos {t : List (List Itm)} {x : Itm} (h0 : 0 < t.length) {p : Nat} (hp : p = leafAt t x t.length) {L : List Itm} (hL : t.getD p [] = L) (hs : SrtI L) (hx : hasI L x = true) :
    delT t x = if 2 ≤ (delK L (posI L x)).length ∨ t.length = 1 then withT t p 1 (delK L (posI L x)) else if p = 0 then withT t 0 2 (delK L (posI L x) ++ t.getD 1 []) else withT t (p - 1) 2 (t.getD (p - 1) [] ++ delK L (posI L x)) := by
  unfold delT delAt
  rw [if_pos h0, ← hp, hL, delL_parts hs x hx]
  rfl
theorem lvs_pair {w : World} {v u : Value} {f g : List Itm} (hf : Itms w v f) (hg : Itms w u g) (nf : NilOk v) (ng : NilOk u) {b : Nat} (hb : w.heap[b]? = some (.cells #[v, u] 28 (0, 0))) : Lvs w (.slice (some ⟨b, 0, none⟩) 2 2) [f, g] := by
  refine ⟨_, 2, rfl, Nat.le_refl 2, by omega, .inr ⟨b, 0, rfl, lt_block hb, fun i hi => ?_⟩⟩
  match i, hi with
  | 0, _ => exact ⟨v, by rw [cell_block hb]; rfl, hf, nf⟩
  | 1, _ => exact ⟨u, by rw [cell_block hb]; rfl, hg, ng⟩
theorem with20_any (v : Value) (t : List (List Itm)) (lv : Value) (f : List Itm) (w : World) (h : Lvs w v t) (hf : Itms w lv f) (hf5 : f.length ≤ 1000) (ht : t.length ≤ 1000) (hp : 0 < t.length) (hls : ∀ g ∈ t, g.length ≤ 1000) :
    Calls Try.prog 57 #[.agg #[v], .int .i64 0, .int .i64 2, lv] w (LTRet w (withT t 0 2 f)) := with2_any v t lv f 0 w h hf hf5 ht hp hls
set_option maxHeartbeats 16000000 in
set_option maxRecDepth 100000 in
theorem treeDelete_any (v : Value) (t : List (List Itm)) (x : Itm) (w : World) (h : Lvs w v t) (hn : (flatT t).length ≤ 1048576) :
    Calls Try.prog 26 #[.agg #[v], .agg #[.int .i64 x.k, .int .i64 x.r]] w (ChRet w (delOk t x) (delT t x)) := by
  have HLV := hide h
  obtain ⟨ta, tc, rfl⟩ := h.nil_eq
  have HT0 := hide (blk_keep (blk_keep (blk_alloc w (.cells #[.slice ta t.length tc] 25)) (.cells #[.int .i64 x.k, .int .i64 x.r] 38)) (.cells #[.slice none 0 0] 25))
  have HX0 := hide (blk_keep (blk_at (W := w.alloc (.cells #[.slice ta t.length tc] 25)) (b := w.heap.size + 1) (by simp) (.cells #[.int .i64 x.k, .int .i64 x.r] 38)) (.cells #[.slice none 0 0] 25))
  have HR0 := hide (blk_at (W := (w.alloc (.cells #[.slice ta t.length tc] 25)).alloc (.cells #[.int .i64 x.k, .int .i64 x.r] 38)) (b := w.heap.size + 2) (by simp) (.cells #[.slice none 0 0] 25))
  have HB0 := hide ((below_box2 w (.cells #[.slice ta t.length tc] 25) (.cells #[.int .i64 x.k, .int .i64 x.r] 38)).alloc (by simp; omega) (.cells #[.slice none 0 0] 25))
  have HV := hide (validTree_any (.slice ta t.length tc) t _ (HLV.out.keep HB0.out) hn)
  clear h
  go_enter Try.func26, Try.ntmps26
  go_wp2_with fail
  refine HV.out.mono ?_
  rintro e w1 ⟨q1, rfl, hv, hb⟩
  have H1 : Hid (Below w.heap.size w w1) := HB0.out.trans (hb.mono HB0.out.size)
  have HT1 := hide (blk_own hb HT0.out)
  have HX1 := hide (blk_own hb HX0.out)
  have HR1 := hide (blk_own hb HR0.out)
  have HVV := hide hv
  have hbs := lt_block HR1.out
  have s0 := cell_block HT1.out 0
  have s1 := cell_block HX1.out 0
  have s2 := cell_block HX1.out 1
  have s3 := cell_block HR1.out 0
  have s4 := froz_block HR1.out 0
  clear hb hv HV HT0 HX0 HR0 HB0
  cases q1 with
  | false =>
    have HNO : Hid (¬ delOk t x) := fun h => by have := HVV.out.2 h.1; cases this
    have HF : Hid (Below w.heap.size w (w1.setCell ⟨w.heap.size + 2, 0, none⟩ (.slice none 0 0))) := H1.out.setCell (by simp) _
    have S3 := hide (set_block HR1.out 0 (.slice none 0 0))
    have s5 := cell_block S3.out 0
    go_wp2_with fail
    all_goals go_tidy
    refine ⟨rfl, .tuple #[.agg #[.slice none 0 0], .bool false], by simp [results, Try.results26, go_sem, s5], chRet_no HNO.out HF.out⟩
  | true =>
    have HY : Hid (VT t) := HVV.out.1 rfl
    clear HVV
    by_cases h0 : t.length = 0
    · have ht0 : t = [] := List.length_eq_zero_iff.1 h0
      have HNO : Hid (¬ delOk t x) := fun h => by have := h.2; rw [ht0] at this; simp [flatT, hasI] at this
      have HF : Hid (Below w.heap.size w (w1.setCell ⟨w.heap.size + 2, 0, none⟩ (.slice none 0 0))) := H1.out.setCell (by simp) _
      have S3 := hide (set_block HR1.out 0 (.slice none 0 0))
      have s5 := cell_block S3.out 0
      go_wp2_with fail
      all_goals go_tidy
      refine ⟨rfl, .tuple #[.agg #[.slice none 0 0], .bool false], by simp [results, Try.results26, go_sem, s5], chRet_no HNO.out HF.out⟩
    · have h0' : ((t.length : Int) == 0) = false := beq_false_of_ne (by omega)
      have hpos : 0 < t.length := by omega
      have hn30 := HY.out.n
      obtain ⟨p, hpe⟩ : ∃ p, p = leafAt t x t.length := ⟨_, rfl⟩
      have hp : p < t.length := hpe ▸ leafAt_lt x hpos
      have HHL : Hid (hasI t[p] x = true ↔ hasI (flatT t) x = true) := by
        subst hpe
        exact ⟨fun h => hasI_iff.2 ((has_leaf HY.out.srt HY.out.ne x hpos).2 (hasI_iff.1 h)), fun h => hasI_iff.2 ((has_leaf HY.out.srt HY.out.ne x hpos).1 (hasI_iff.1 h))⟩
      have HPE := hide hpe
      have HLF := hide (fun z hz => leafFor_any (.slice ta t.length tc) t x z hz HY.out.ne)
      rw [← hpe] at HLF
      clear hpe
      go_wp2_with fail
      refine (HLF.out _ (HLV.out.keep H1.out)).mono ?_
      rintro e w5 ⟨rfl, hb⟩
      have H5 : Hid (Below w.heap.size w w5) := H1.out.trans (hb.mono H1.out.size)
      have HT5 := hide (blk_own hb HT1.out)
      have HX5 := hide (blk_own hb HX1.out)
      have HR5 := hide (blk_own hb HR1.out)
      have hsl := srt_sub HY.out.srt (List.getElem_mem hp)
      have hl4 := (HY.out.len _ (List.getElem_mem hp)).2
      have hlv : Lvs w (.slice ta t.length tc) t := HLV.out
      clear hb HLF HT1 HX1 HR1 s0 s1 s2 s3 s4 hbs H1
      obtain ⟨ta', tc', he, htc, htc2, hd⟩ := hlv
      injection he with he1 _ he2
      subst he1; subst he2
      obtain ⟨b, off, rfl, hbb, hcell⟩ := hd.resolve_left (by rintro rfl; simp at hpos)
      have HROW : Hid (∀ i (hi : i < t.length), ∃ la lc, w5.cell? ⟨b, off + i, none⟩ = some (.slice la t[i].length lc) ∧ Itms w5 (.slice la t[i].length lc) t[i] ∧ NilOk (.slice la t[i].length lc)) := fun i hi => by
        obtain ⟨lv, e0, hlv, hnl⟩ := hcell i hi
        obtain ⟨la, lc, rfl⟩ := itms_shape hlv
        exact ⟨la, lc, (H5.out.cell hbb).trans e0, hlv.keep H5.out, hnl⟩
      obtain ⟨la, lc, e0, hlv, -⟩ := HROW.out p hp
      have hbb0 := hbb
      have hbb : b < w5.heap.size := by have := H5.out.size; omega
      have HLF := hide hlv
      have hbs := lt_block HR5.out
      have hb0 : w.heap.size < w5.heap.size := by omega
      have hb1 : w.heap.size + 1 < w5.heap.size := by omega
      have g0 := fun z : BW w5 => bw_cell (p := ⟨w.heap.size, 0, none⟩) hb0 (cell_block HT5.out 0) z
      have g1 := fun z : BW w5 => bw_cell (p := ⟨w.heap.size + 1, 0, none⟩) hb1 (cell_block HX5.out 0) z
      have g2 := fun z : BW w5 => bw_cell (p := ⟨w.heap.size + 1, 1, none⟩) hb1 (cell_block HX5.out 1) z
      have g3 := fun z : BW w5 => bw_cell (p := ⟨b, off + p, none⟩) hbb e0 z
      have HBS := hide (fun z (hz : Below w5.heap.size w5 z) => bsI_any _ _ x z (HLF.out.keep hz) hsl (by omega))
      have hpt : p < t.length := hp
      have hp' : (p : Int) < (t.length : Int) := by omega
      have HDP := hide (fun hx => delT_pos hpos HPE.out (getD_at hp) hsl hx)
      have HPL : Hid (hasI t[p] x = true → posI t[p] x < t[p].length) := fun hx => ((hasI_of hsl x).1 hx).1
      clear hd hcell hlv hsl HPE
      obtain ⟨L, hL⟩ : ∃ L, t[p] = L := ⟨_, rfl⟩
      rw [hL] at e0 HLF HBS hl4 HDP g3 HHL HPL
      clear hL
      obtain ⟨P, hP⟩ : ∃ P, posI L x = P := ⟨_, rfl⟩
      rw [hP] at HBS HDP HPL
      clear hP
      go_wp2_with fail
      refine wp_region_bw (by kernel_rfl) (by kernel_rfl) ?_
      repeat (go_big_quiet_step (first | (go_at_call 54; with_reducible exact bw_of (HBS.out _ (by first | exact BW.h _)))))
      refine wpQuiet_nil ?_
      rintro _ ⟨z, rfl⟩
      have hzh := z.h
      have hzs := hzh.size
      clear g0 g1 g2 g3 HBS
      generalize z.v = W at *
      have HW : Hid (Below w.heap.size w W) := H5.out.trans (hzh.mono H5.out.size)
      have HT := hide (blk_own hzh HT5.out)
      have HX := hide (blk_own hzh HX5.out)
      have HR := hide (blk_own hzh HR5.out)
      have HROW : Hid (∀ i (hi : i < t.length), ∃ la lc, W.cell? ⟨b, off + i, none⟩ = some (.slice la t[i].length lc) ∧ Itms W (.slice la t[i].length lc) t[i] ∧ NilOk (.slice la t[i].length lc)) := fun i hi => by
        obtain ⟨la, lc, e0, e1, e2⟩ := HROW.out i hi
        exact ⟨la, lc, (hzh.cell hbb).trans e0, e1.keep hzh, e2⟩
      have e0 := (hzh.cell hbb).trans e0
      have HLFW := hide (HLF.out.keep hzh)
      have hbW : b < W.heap.size := by omega
      have hbs := lt_block HR.out
      have hWW := HW.out.size
      clear HT5 HX5 HR5 H5 hb0 hb1 hzh hzs hbb HLF
      have s0 := cell_block HT.out 0
      have s3 := cell_block HR.out 0
      have s4 := froz_block HR.out 0
      cases hfd : hasI L x with
      | false =>
        have HNO : Hid (¬ delOk t x) := fun h => by have := HHL.out.2 h.2; rw [hfd] at this; cases this
        have HF : Hid (Below w.heap.size w (W.setCell ⟨w.heap.size + 2, 0, none⟩ (.slice none 0 0))) := HW.out.setCell (by simp) _
        have S3 := hide (set_block HR.out 0 (.slice none 0 0))
        have s5 := cell_block S3.out 0
        go_wp2_with fail
        all_goals go_tidy
        refine ⟨rfl, .tuple #[.agg #[.slice none 0 0], .bool false], by simp [results, Try.results26, go_sem, s5], chRet_no HNO.out HF.out⟩
      | true =>
        have hPL := HPL.out hfd
        have HOK : Hid (delOk t x) := ⟨HY.out, HHL.out.1 hfd⟩
        have HDT := hide (HDP.out hfd)
        clear HDP HPL HHL
        have HCL := hide (cloneI_any _ _ W HLFW.out (by omega))
        have hw9 : IntKind.i64.wrap ((P : Int) + 1) = (P : Int) + 1 := by rw [IntKind.wrap_i64]; omega
        go_wp2_with fail
        refine HCL.out.mono ?_
        rintro e w6 ⟨v6, rfl, ho, hb⟩
        have H6 := hide hb
        obtain ⟨g6, c6, rfl, hB6, hg6⟩ := World.ownsRow.form ho (by omega)
        have HDL := hide (delI_any W.heap.size g6 c6 P ((P : Int) + 1) L w6 ho hPL rfl)
        have hDl := delK_len hPL
        clear hb ho HCL
        go_wp2_with fail
        refine HDL.out.mono ?_
        rintro e w7 ⟨rfl, ho, hg⟩
        have H7 : Hid (Below W.heap.size W w7) := H6.out.grown hg H6.out.size (fun q hq => by injection hq with hq; omega)
        have HO7 := hide ho
        clear ho hg H6 HDL s0 s3 s4
        obtain ⟨D, hD⟩ : ∃ D, delK L P = D := ⟨_, rfl⟩
        rw [hD] at HO7 HDT hDl ⊢
        clear hD
        have HT7 := hide (blk_own H7.out HT.out)
        have HR7 := hide (blk_own H7.out HR.out)
        have hbs7 := lt_block HR7.out
        have s0 := cell_block HT7.out 0
        have s3 := cell_block HR7.out 0
        have s4 := froz_block HR7.out 0
        have HL7 := hide ((HLV.out.keep HW.out).keep H7.out)
        have ht30 : t.length ≤ 30 := HY.out.leaves
        have ht1000 : t.length ≤ 1000 := by omega
        have hls : ∀ g ∈ t, g.length ≤ 1000 := fun g hg => Nat.le_trans (HY.out.len g hg).2 (by omega)
        by_cases hA : 2 ≤ D.length ∨ t.length = 1
        · have HRS : Hid (delT t x = withT t p 1 D) := by unfold Hid; rw [HDT.out, if_pos hA]
          have HWT := hide (with1_any _ t _ D p w7 HL7.out HO7.out.itms (by omega) ht1000 hp hls)
          have hA' : (2 : Int) ≤ (D.length : Int) ∨ (¬ (2 : Int) ≤ (D.length : Int) ∧ ((t.length : Int) == 1) = true) := by
            by_cases c : 2 ≤ D.length
            · exact .inl (by omega)
            · exact .inr ⟨by omega, by have := hA.resolve_left c; simp [this]⟩
          clear HDT hA HROW
          rcases hA' with hA' | ⟨hA', hA2⟩
          all_goals
            go_wp2_with fail
            refine HWT.out.mono ?_
            rintro e w9 ⟨v9, rfl, ho, hb⟩
            have HB9 : Hid (Below W.heap.size W w9) := H7.out.trans (hb.mono H7.out.size)
            have HO9 := hide (ho.mono (B' := W.heap.size) H7.out.size)
            have HR9 := hide (blk_own HB9.out HR.out)
            have D0 := cell_block HR9.out 0
            have DF := froz_block HR9.out 0
            obtain ⟨a9, n9, c9, rfl⟩ := ownL_any ho
            clear ho hb
            clear HWT HL7
            have HF : Hid (Below w.heap.size w (w9.setCell ⟨w.heap.size + 2, 0, none⟩ (.slice a9 n9 c9))) := (HW.out.trans (HB9.out.mono HW.out.size)).setCell (by simp) _
            have S3 := hide (set_block HR9.out 0 (.slice a9 n9 c9))
            have s5 := cell_block S3.out 0
            have HOF := hide ((HO9.out.low (k := w.heap.size + 2) (j := 0) (u := .slice a9 n9 c9) hbs).mono (B' := w.heap.size) (by omega))
            rw [← HRS.out] at HOF
            go_wp2_with fail
            all_goals go_tidy
            refine ⟨rfl, .tuple #[.agg #[.slice a9 n9 c9], .bool true], by simp [results, Try.results26, go_sem, s5], chRet_yes HOK.out HOF.out HF.out⟩
        · have hA1 : ¬ (2 : Int) ≤ (D.length : Int) := by omega
          have hA2 : ((t.length : Int) == 1) = false := beq_false_of_ne (by omega)
          have ht2 : 2 ≤ t.length := by omega
          have ht2' : (1 : Int) < (t.length : Int) := by omega
          have ht2n : 1 < t.length := by omega
          have hD4 : D.length ≤ 4 := by omega
          by_cases hp0 : p = 0
          · subst hp0
            obtain ⟨na, nc, n0, nit, nnl⟩ := HROW.out 1 (by omega)
            have n0 := (H7.out.cell hbW).trans n0
            have NIT := hide (nit.keep H7.out)
            have NNL := hide nnl
            have hN4 := (HY.out.len _ (List.getElem_mem (show 1 < t.length by omega))).2
            have HRS : Hid (delT t x = withT t 0 2 (D ++ t[1])) := by
              unfold Hid
              rw [HDT.out, if_neg hA, if_pos rfl, getD_at (show 1 < t.length by omega)]
            clear nit nnl HROW HDT
            generalize t[1] = N at *
            have HDW : Hid (Below w7.heap.size w7 w7.drew) := (Below.refl _ _).drew
            have HDA : Hid (Below w7.heap.size w7 (w7.alloc (.cells #[.slice (some ⟨g6, 0, none⟩) D.length c6, .slice na N.length nc] 28)).drew) := (below_box w7 _).drew
            have H7A : Hid (Below W.heap.size W (w7.alloc (.cells #[.slice (some ⟨g6, 0, none⟩) D.length c6, .slice na N.length nc] 28)).drew) := H7.out.trans (HDA.out.mono H7.out.size)
            have HBK : Hid ((w7.alloc (.cells #[.slice (some ⟨g6, 0, none⟩) D.length c6, .slice na N.length nc] 28)).drew.heap[w7.heap.size]? = some (.cells #[.slice (some ⟨g6, 0, none⟩) D.length c6, .slice na N.length nc] 28 (0, 0))) := blk_drew0 (blk_alloc w7 _)
            have HCN := hide (concat_any _ [D, N] _ (lvs_pair (HO7.out.itms.keep HDA.out) (NIT.out.keep HDA.out) nilOk_some NNL.out HBK.out) (by simp [flatT]; omega))
            have HFL : Hid (flatT [D, N] = D ++ N) := by unfold Hid; simp [flatT]
            have hfl4 : (D ++ N).length ≤ 1000 := by rw [List.length_append]; omega
            rw [HFL.out] at HCN
            clear HFL
            generalize D ++ N = F at *
            have h7w := H7.out.size
            have HS : Hid (∀ z, Below w7.heap.size w7 z → (z.cell? ⟨w.heap.size, 0, none⟩ = some (.slice (some ⟨b, off, none⟩) t.length tc) ∧ z.cell? ⟨b, off + 1, none⟩ = some (.slice na N.length nc))) :=
              fun z hz => ⟨(hz.cell (p := ⟨w.heap.size, 0, none⟩) (show w.heap.size < w7.heap.size by omega)).trans (cell_block HT7.out 0), (hz.cell (p := ⟨b, off + 1, none⟩) (show b < w7.heap.size by omega)).trans n0⟩
            have HS2 : Hid (∀ z u, Below w7.heap.size w7 z → ((z.setCell ⟨w.heap.size + 1 + 1, 0, none⟩ u).cell? ⟨w.heap.size, 0, none⟩ = some (.slice (some ⟨b, off, none⟩) t.length tc) ∧ (z.setCell ⟨w.heap.size + 1 + 1, 0, none⟩ u).cell? ⟨b, off + 1, none⟩ = some (.slice na N.length nc))) := by
              intro z u hz
              obtain ⟨h1, h2⟩ := HS.out z hz
              have hk : ∀ k o, k ≠ w.heap.size + 1 + 1 → (z.setCell ⟨w.heap.size + 1 + 1, 0, none⟩ u).cell? ⟨k, o, none⟩ = z.cell? ⟨k, o, none⟩ := fun k o hne => World.cell?_of_block (a := ⟨k, o, none⟩) (Below.heap_setCell z ⟨w.heap.size + 1 + 1, 0, none⟩ u k hne)
              exact ⟨(hk _ _ (by omega)).trans h1, (hk _ _ (by omega)).trans h2⟩
            go_wp2_with fail
            go_region_held3 (fun z => (z.cell? ⟨w.heap.size, 0, none⟩ = some (.slice (some ⟨b, off, none⟩) t.length tc) ∧ z.cell? ⟨b, off + 1, none⟩ = some (.slice na N.length nc))) (first | exact HS.out _ (Below.refl _ _) | exact HS.out _ HDW.out | exact HS.out _ HDA.out | exact HS.out _ HB8.out | exact HS.out _ HC9.out | exact HS2.out _ _ HC9.out) (first
              | (go_at_call 40; (with_reducible refine HCN.out.mono ?_); rintro e w8 ⟨v8, rfl, ho, hb⟩; have HB8 : Hid (Below w7.heap.size w7 w8) := HDA.out.trans (hb.mono HDA.out.size); have HW8 : Hid (Below W.heap.size W w8) := H7.out.trans (HB8.out.mono H7.out.size); have HO8 := hide ho.itms; have HL8 := hide (HL7.out.keep HB8.out); obtain ⟨a8, c8, rfl, -⟩ := own_slc ho; clear ho hb)
              | (go_at_call 57; (with_reducible refine (with20_any _ t _ _ _ HL8.out HO8.out hfl4 ht1000 hp hls).mono ?_); rintro e w9 ⟨v9, rfl, ho, hb⟩; have HC9 : Hid (Below w7.heap.size w7 w9) := HB8.out.trans (hb.mono HB8.out.size); have HB9 : Hid (Below W.heap.size W w9) := HW8.out.trans (hb.mono HW8.out.size); have HO9 := hide (ho.mono (B' := W.heap.size) HW8.out.size); have HR9 := hide (blk_own HB9.out HR.out); have D0 := cell_block HR9.out 0; have DF := froz_block HR9.out 0; obtain ⟨a9, n9, c9, rfl⟩ := ownL_any ho; clear ho hb))
            all_goals
              clear HS HS2 HCN HL7
              have HF : Hid (Below w.heap.size w (w9.setCell ⟨w.heap.size + 2, 0, none⟩ (.slice a9 n9 c9))) := (HW.out.trans (HB9.out.mono HW.out.size)).setCell (by simp) _
              have S3 := hide (set_block HR9.out 0 (.slice a9 n9 c9))
              have s5 := cell_block S3.out 0
              have HOF := hide ((HO9.out.low (k := w.heap.size + 2) (j := 0) (u := .slice a9 n9 c9) hbs).mono (B' := w.heap.size) (by omega))
              rw [← HRS.out] at HOF
              go_wp2_with fail
              all_goals go_tidy
              refine ⟨rfl, .tuple #[.agg #[.slice a9 n9 c9], .bool true], by simp [results, Try.results26, go_sem, s5], chRet_yes HOK.out HOF.out HF.out⟩
          · obtain ⟨m, hm⟩ : ∃ m, p = m + 1 := ⟨p - 1, by omega⟩
            have hp1' : ((p : Int) == 0) = false := beq_false_of_ne (by omega)
            have hsub : (p : Int) - 1 = (m : Int) := by omega
            have hwm : IntKind.i64.wrap (m : Int) = (m : Int) := by rw [IntKind.wrap_i64]; omega
            have hsubn : p - 1 = m := by omega
            have hmt : m < t.length := by omega
            have hmt' : (m : Int) < (t.length : Int) := by omega
            have hp0h := hide hp0
            clear hm
            obtain ⟨na, nc, n0, nit, nnl⟩ := HROW.out m (by omega)
            have n0 := (H7.out.cell hbW).trans n0
            have NIT := hide (nit.keep H7.out)
            have NNL := hide nnl
            have hN4 := (HY.out.len _ (List.getElem_mem (show m < t.length by omega))).2
            have HRS : Hid (delT t x = withT t m 2 (t[m] ++ D)) := by
              unfold Hid
              rw [HDT.out, if_neg hA, if_neg hp0, hsubn, getD_at (show m < t.length by omega)]
            clear nit nnl HROW HDT
            generalize t[m] = N at *
            have HDW : Hid (Below w7.heap.size w7 w7.drew) := (Below.refl _ _).drew
            have HDA : Hid (Below w7.heap.size w7 (w7.alloc (.cells #[.slice na N.length nc, .slice (some ⟨g6, 0, none⟩) D.length c6] 28)).drew) := (below_box w7 _).drew
            have H7A : Hid (Below W.heap.size W (w7.alloc (.cells #[.slice na N.length nc, .slice (some ⟨g6, 0, none⟩) D.length c6] 28)).drew) := H7.out.trans (HDA.out.mono H7.out.size)
            have HBK : Hid ((w7.alloc (.cells #[.slice na N.length nc, .slice (some ⟨g6, 0, none⟩) D.length c6] 28)).drew.heap[w7.heap.size]? = some (.cells #[.slice na N.length nc, .slice (some ⟨g6, 0, none⟩) D.length c6] 28 (0, 0))) := blk_drew0 (blk_alloc w7 _)
            have HCN := hide (concat_any _ [N, D] _ (lvs_pair (NIT.out.keep HDA.out) (HO7.out.itms.keep HDA.out) NNL.out nilOk_some HBK.out) (by simp [flatT]; omega))
            have HFL : Hid (flatT [N, D] = N ++ D) := by unfold Hid; simp [flatT]
            have hfl4 : (N ++ D).length ≤ 1000 := by rw [List.length_append]; omega
            rw [HFL.out] at HCN
            clear HFL
            generalize N ++ D = F at *
            have h7w := H7.out.size
            have HS : Hid (∀ z, Below w7.heap.size w7 z → (z.cell? ⟨w.heap.size, 0, none⟩ = some (.slice (some ⟨b, off, none⟩) t.length tc) ∧ z.cell? ⟨b, off + m, none⟩ = some (.slice na N.length nc))) :=
              fun z hz => ⟨(hz.cell (p := ⟨w.heap.size, 0, none⟩) (show w.heap.size < w7.heap.size by omega)).trans (cell_block HT7.out 0), (hz.cell (p := ⟨b, off + m, none⟩) (show b < w7.heap.size by omega)).trans n0⟩
            have HS2 : Hid (∀ z u, Below w7.heap.size w7 z → ((z.setCell ⟨w.heap.size + 1 + 1, 0, none⟩ u).cell? ⟨w.heap.size, 0, none⟩ = some (.slice (some ⟨b, off, none⟩) t.length tc) ∧ (z.setCell ⟨w.heap.size + 1 + 1, 0, none⟩ u).cell? ⟨b, off + m, none⟩ = some (.slice na N.length nc))) := by
              intro z u hz
              obtain ⟨h1, h2⟩ := HS.out z hz
              have hk : ∀ k o, k ≠ w.heap.size + 1 + 1 → (z.setCell ⟨w.heap.size + 1 + 1, 0, none⟩ u).cell? ⟨k, o, none⟩ = z.cell? ⟨k, o, none⟩ := fun k o hne => World.cell?_of_block (a := ⟨k, o, none⟩) (Below.heap_setCell z ⟨w.heap.size + 1 + 1, 0, none⟩ u k hne)
              exact ⟨(hk _ _ (by omega)).trans h1, (hk _ _ (by omega)).trans h2⟩
            go_wp2_with fail
            go_region_held3 (fun z => (z.cell? ⟨w.heap.size, 0, none⟩ = some (.slice (some ⟨b, off, none⟩) t.length tc) ∧ z.cell? ⟨b, off + m, none⟩ = some (.slice na N.length nc))) (first | exact HS.out _ (Below.refl _ _) | exact HS.out _ HDW.out | exact HS.out _ HDA.out | exact HS.out _ HB8.out | exact HS.out _ HC9.out | exact HS2.out _ _ HC9.out) (first
              | (go_at_call 40; (with_reducible refine HCN.out.mono ?_); rintro e w8 ⟨v8, rfl, ho, hb⟩; have HB8 : Hid (Below w7.heap.size w7 w8) := HDA.out.trans (hb.mono HDA.out.size); have HW8 : Hid (Below W.heap.size W w8) := H7.out.trans (HB8.out.mono H7.out.size); have HO8 := hide ho.itms; have HL8 := hide (HL7.out.keep HB8.out); obtain ⟨a8, c8, rfl, -⟩ := own_slc ho; clear ho hb)
              | (go_at_call 57; (with_reducible refine (with2_any _ t _ _ m _ HL8.out HO8.out hfl4 ht1000 hmt hls).mono ?_); rintro e w9 ⟨v9, rfl, ho, hb⟩; have HC9 : Hid (Below w7.heap.size w7 w9) := HB8.out.trans (hb.mono HB8.out.size); have HB9 : Hid (Below W.heap.size W w9) := HW8.out.trans (hb.mono HW8.out.size); have HO9 := hide (ho.mono (B' := W.heap.size) HW8.out.size); have HR9 := hide (blk_own HB9.out HR.out); have D0 := cell_block HR9.out 0; have DF := froz_block HR9.out 0; obtain ⟨a9, n9, c9, rfl⟩ := ownL_any ho; clear ho hb))
            all_goals
              clear HS HS2 HCN HL7
              have HF : Hid (Below w.heap.size w (w9.setCell ⟨w.heap.size + 2, 0, none⟩ (.slice a9 n9 c9))) := (HW.out.trans (HB9.out.mono HW.out.size)).setCell (by simp) _
              have S3 := hide (set_block HR9.out 0 (.slice a9 n9 c9))
              have s5 := cell_block S3.out 0
              have HOF := hide ((HO9.out.low (k := w.heap.size + 2) (j := 0) (u := .slice a9 n9 c9) hbs).mono (B' := w.heap.size) (by omega))
              rw [← HRS.out] at HOF
              go_wp2_with fail
              all_goals go_tidy
              refine ⟨rfl, .tuple #[.agg #[.slice a9 n9 c9], .bool true], by simp [results, Try.results26, go_sem, s5], chRet_yes HOK.out HOF.out HF.out⟩
end Go.Proofs.Ytmlphdniiiijpaa
