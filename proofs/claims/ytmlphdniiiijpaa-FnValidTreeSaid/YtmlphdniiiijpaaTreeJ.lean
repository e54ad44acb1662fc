/-
  TreeInsert of the program.
-/
import Derived.Test.YtmlphdniiiijpaaTreeI
import Derived.Test.YtmlphdniiiijpaaWork
set_option linter.all false
namespace Go.Proofs.Ytmlphdniiiijpaa
open Go.RowKit
/-- a tree that is changed, or none -/
def ChgOf (ok : Prop) (s r : List (List Itm)) (b : Bool) : Prop := (ok → b = true ∧ r = s) ∧ (¬ ok → b = false ∧ r = [])
def ChRet (w : World) (ok : Prop) (s : List (List Itm)) (e : Ending) (w' : World) : Prop := ∃ rv r b, e = .returned (.tuple #[.agg #[rv], .bool b]) ∧ ChgOf ok s r b ∧ OwnL w.heap.size w' rv r ∧ Below w.heap.size w w'
theorem chRet_no {w w' : World} {ok : Prop} {s : List (List Itm)} (h : ¬ ok) (hb : Below w.heap.size w w') : ChRet w ok s (.returned (.tuple #[.agg #[.slice none 0 0], .bool false])) w' := ⟨_, [], false, rfl, ⟨fun q => absurd q h, fun _ => ⟨rfl, rfl⟩⟩, OwnL.nil _ _, hb⟩
theorem chRet_yes {w w' : World} {ok : Prop} {s : List (List Itm)} {rv : Value} (h : ok) (ho : OwnL w.heap.size w' rv s) (hb : Below w.heap.size w w') : ChRet w ok s (.returned (.tuple #[.agg #[rv], .bool true])) w' := ⟨_, s, true, rfl, ⟨fun _ => ⟨rfl, rfl⟩, fun q => absurd h q⟩, ho, hb⟩
theorem ChgOf.uniq {ok : Prop} {s r r' : List (List Itm)} {b b' : Bool} (h : ChgOf ok s r b) (h' : ChgOf ok s r' b') : r' = r ∧ b' = b := by
  by_cases c : ok
  · exact ⟨(h'.1 c).2.trans (h.1 c).2.symm, (h'.1 c).1.trans (h.1 c).1.symm⟩
  · exact ⟨(h'.2 c).2.trans (h.2 c).2.symm, (h'.2 c).1.trans (h.2 c).1.symm⟩
def insOk (t : List (List Itm)) (x : Itm) : Prop := VT t ∧ okI x = true ∧ hasI (flatT t) x = false ∧ (flatT t).length < 30
theorem insT_pos {t : List (List Itm)} {x : Itm} (h : VT t) (hx : hasI (flatT t) x = false) (h0 : 0 < t.length) :
    insT t x = withT t (leafAt t x t.length) 1 (insK (t[leafAt t x t.length]'(leafAt_lt x h0)) (posI (t[leafAt t x t.length]'(leafAt_lt x h0)) x) x) := by
  have hs := srt_sub h.srt (List.getElem_mem (leafAt_lt x h0))
  have hn : hasI (t[leafAt t x t.length]'(leafAt_lt x h0)) x = false := by
    cases hq : hasI (t[leafAt t x t.length]'(leafAt_lt x h0)) x with
    | false => rfl
    | true =>
      have := (has_leaf h.srt h.ne x h0).2 (hasI_iff.1 hq)
      rw [hasI_iff.2 this] at hx; cases hx
  unfold insT
  rw [dif_pos h0, putL_parts hs x hn]; rfl
theorem Lvs.nil_eq {w : World} {v : Value} {t : List (List Itm)} (h : Lvs w v t) : ∃ a c, v = .slice a t.length c := by
  obtain ⟨a, c, e, -⟩ := h
  exact ⟨a, c, e⟩
theorem with1_any (v : Value) (t : List (List Itm)) (lv : Value) (f : List Itm) (p : Nat) (w : World) (h : Lvs w v t) (hf : Itms w lv f) (hf5 : f.length ≤ 1000) (ht : t.length ≤ 1000) (hp : p < t.length) (hls : ∀ g ∈ t, g.length ≤ 1000) :
    Calls Try.prog 57 #[.agg #[v], .int .i64 (p : Int), .int .i64 1, lv] w (LTRet w (withT t p 1 f)) := with_any v t lv f p 1 w h hf hf5 (by decide) (by decide) ht hp hls
theorem with2_any (v : Value) (t : List (List Itm)) (lv : Value) (f : List Itm) (p : Nat) (w : World) (h : Lvs w v t) (hf : Itms w lv f) (hf5 : f.length ≤ 1000) (ht : t.length ≤ 1000) (hp : p < t.length) (hls : ∀ g ∈ t, g.length ≤ 1000) :
    Calls Try.prog 57 #[.agg #[v], .int .i64 (p : Int), .int .i64 2, lv] w (LTRet w (withT t p 2 f)) := with_any v t lv f p 2 w h hf hf5 (by decide) (by decide) ht hp hls
set_option maxHeartbeats 16000000 in
set_option maxRecDepth 100000 in
theorem treeInsert_any (v : Value) (t : List (List Itm)) (x : Itm) (w : World) (h : Lvs w v t) (hn : (flatT t).length ≤ 1048576) :
    Calls Try.prog 36 #[.agg #[v], .agg #[.int .i64 x.k, .int .i64 x.r]] w (ChRet w (insOk t x) (insT t x)) := by
  have HLV := hide h
  obtain ⟨ta, tc, rfl⟩ := h.nil_eq
  have HT0 := hide (blk_keep (blk_keep (blk_alloc w (.cells #[.slice ta t.length tc] 25)) (.cells #[.int .i64 x.k, .int .i64 x.r] 38)) (.cells #[.slice none 0 0] 25))
  have HX0 := hide (blk_keep (blk_at (W := w.alloc (.cells #[.slice ta t.length tc] 25)) (b := w.heap.size + 1) (by simp) (.cells #[.int .i64 x.k, .int .i64 x.r] 38)) (.cells #[.slice none 0 0] 25))
  have HR0 := hide (blk_at (W := (w.alloc (.cells #[.slice ta t.length tc] 25)).alloc (.cells #[.int .i64 x.k, .int .i64 x.r] 38)) (b := w.heap.size + 2) (by simp) (.cells #[.slice none 0 0] 25))
  have HB0 := hide ((below_box2 w (.cells #[.slice ta t.length tc] 25) (.cells #[.int .i64 x.k, .int .i64 x.r] 38)).alloc (by simp; omega) (.cells #[.slice none 0 0] 25))
  have HV := hide (validTree_any (.slice ta t.length tc) t _ (HLV.out.keep HB0.out) hn)
  clear h
  go_enter Try.func36, Try.ntmps36
  go_wp2_with fail
  refine HV.out.mono ?_
  rintro e w1 ⟨q1, rfl, hv, hb⟩
  have H1 : Hid (Below w.heap.size w w1) := HB0.out.trans (hb.mono HB0.out.size)
  have HT1 := hide (blk_own hb HT0.out)
  have HX1 := hide (blk_own hb HX0.out)
  have HR1 := hide (blk_own hb HR0.out)
  have HVV := hide hv
  have hbs := lt_block HR1.out
  have s0 := cell_block HT1.out 0
  have s1 := cell_block HX1.out 0
  have s2 := cell_block HX1.out 1
  have s3 := cell_block HR1.out 0
  have s4 := froz_block HR1.out 0
  have HIV := hide (ivalid_any x w1)
  clear hb hv HV HT0 HX0 HR0 HB0
  cases q1 with
  | false =>
    have HN : Hid (¬ insOk t x) := fun h => by have := HVV.out.2 h.1; cases this
    have HF : Hid (Below w.heap.size w (w1.setCell ⟨w.heap.size + 2, 0, none⟩ (.slice none 0 0))) := H1.out.setCell (by simp) _
    have S3 := hide (set_block HR1.out 0 (.slice none 0 0))
    have s5 := cell_block S3.out 0
    go_wp2_with fail
    all_goals go_tidy
    refine ⟨rfl, .tuple #[.agg #[.slice none 0 0], .bool false], by simp [results, Try.results36, go_sem, s5], chRet_no HN.out HF.out⟩
  | true =>
    have HY : Hid (VT t) := HVV.out.1 rfl
    go_wp2_with fail
    refine HIV.out.mono ?_
    rintro e w2 ⟨rfl, hb⟩
    have H2 : Hid (Below w.heap.size w w2) := H1.out.trans (hb.mono H1.out.size)
    have HT2 := hide (blk_own hb HT1.out)
    have HX2 := hide (blk_own hb HX1.out)
    have HR2 := hide (blk_own hb HR1.out)
    clear hb HIV HT1 HX1 HR1 s0 s1 s2 s3 s4 hbs HVV H1
    have hbs := lt_block HR2.out
    have s0 := cell_block HT2.out 0
    have s1 := cell_block HX2.out 0
    have s2 := cell_block HX2.out 1
    have s3 := cell_block HR2.out 0
    have s4 := froz_block HR2.out 0
    obtain ⟨q2, hq2⟩ : ∃ q, okI x = q := ⟨_, rfl⟩
    rw [hq2]
    have HQ2 := hide hq2
    clear hq2
    cases q2 with
    | false =>
      have HN : Hid (¬ insOk t x) := fun h => by have := h.2.1; rw [HQ2.out] at this; cases this
      have HF : Hid (Below w.heap.size w (w2.setCell ⟨w.heap.size + 2, 0, none⟩ (.slice none 0 0))) := H2.out.setCell (by simp) _
      have S3 := hide (set_block HR2.out 0 (.slice none 0 0))
      have s5 := cell_block S3.out 0
      go_wp2_with fail
      all_goals go_tidy
      refine ⟨rfl, .tuple #[.agg #[.slice none 0 0], .bool false], by simp [results, Try.results36, go_sem, s5], chRet_no HN.out HF.out⟩
    | true =>
      have HTI := hide (treeItems_any (.slice ta t.length tc) t w2 (HLV.out.keep H2.out) hn)
      have hn30 := HY.out.n
      go_wp2_with fail
      refine HTI.out.mono ?_
      rintro e w3 ⟨v3, r3, rfl, hti, ho, hb⟩
      obtain rfl := hti.1 HY.out
      have H3 : Hid (Below w.heap.size w w3) := H2.out.trans (hb.mono H2.out.size)
      have HT3 := hide (blk_own hb HT2.out)
      have HX3 := hide (blk_own hb HX2.out)
      have HR3 := hide (blk_own hb HR2.out)
      have HBS := hide (bsI_any v3 _ x w3 ho.itms HY.out.srt (by omega))
      obtain ⟨a3, c3, rfl, -⟩ := own_slc ho
      clear hb ho hti HTI HT2 HX2 HR2 s0 s1 s2 s3 s4 hbs H2
      have hbs := lt_block HR3.out
      have s1 := cell_block HX3.out 0
      have s2 := cell_block HX3.out 1
      go_wp2_with fail
      refine HBS.out.mono ?_
      rintro e w4 ⟨rfl, hb⟩
      have H4 : Hid (Below w.heap.size w w4) := H3.out.trans (hb.mono H3.out.size)
      have HT4 := hide (blk_own hb HT3.out)
      have HX4 := hide (blk_own hb HX3.out)
      have HR4 := hide (blk_own hb HR3.out)
      clear hb HBS HT3 HX3 HR3 s1 s2 hbs H3
      have hbs := lt_block HR4.out
      have s0 := cell_block HT4.out 0
      have s1 := cell_block HX4.out 0
      have s2 := cell_block HX4.out 1
      have s3 := cell_block HR4.out 0
      have s4 := froz_block HR4.out 0
      obtain ⟨q3, hq3⟩ : ∃ q, hasI (flatT t) x = q := ⟨_, rfl⟩
      obtain ⟨N, hN⟩ : ∃ N, (flatT t).length = N := ⟨_, rfl⟩
      rw [hq3]
      have HQ3 := hide hq3
      have HN := hide hN
      rw [hN] at hn30 ⊢
      clear hq3 hN
      have hno : (q3 = true ∨ N = 30) ∨ (q3 = false ∧ ¬ N = 30) := by
        cases q3 with
        | true => exact .inl (.inl rfl)
        | false => by_cases c : N = 30
                   · exact .inl (.inr c)
                   · exact .inr ⟨rfl, c⟩
      rcases hno with (rfl | rfl) | ⟨rfl, hN30⟩
      · have HNO : Hid (¬ insOk t x) := fun h => by have := h.2.2.1; rw [HQ3.out] at this; cases this
        have HF : Hid (Below w.heap.size w (w4.setCell ⟨w.heap.size + 2, 0, none⟩ (.slice none 0 0))) := H4.out.setCell (by simp) _
        have S3 := hide (set_block HR4.out 0 (.slice none 0 0))
        have s5 := cell_block S3.out 0
        go_wp2_with fail
        all_goals go_tidy
        refine ⟨rfl, .tuple #[.agg #[.slice none 0 0], .bool false], by simp [results, Try.results36, go_sem, s5], chRet_no HNO.out HF.out⟩
      · have HNO : Hid (¬ insOk t x) := fun h => by have := h.2.2.2; rw [HN.out] at this; omega
        have HF : Hid (Below w.heap.size w (w4.setCell ⟨w.heap.size + 2, 0, none⟩ (.slice none 0 0))) := H4.out.setCell (by simp) _
        have S3 := hide (set_block HR4.out 0 (.slice none 0 0))
        have s5 := cell_block S3.out 0
        cases q3 <;>
        · go_wp2_with fail
          all_goals go_tidy
          refine ⟨rfl, .tuple #[.agg #[.slice none 0 0], .bool false], by simp [results, Try.results36, go_sem, s5], chRet_no HNO.out HF.out⟩
      · have hOK : Hid (insOk t x) := ⟨HY.out, HQ2.out, HQ3.out, by have := HN.out; omega⟩
        have hN30' : ((N : Int) == 30) = false := beq_false_of_ne (by omega)
        by_cases h0 : t.length = 0
        · have HT0 : Hid (insT t x = [[x]]) := by unfold Hid insT; rw [dif_neg (by omega)]
          have HAA := hide (below_box2 w4 (.cells #[.int .i64 x.k, .int .i64 x.r] 38) (.cells #[.slice (some ⟨w4.heap.size, 0, none⟩) 1 1] 28))
          have HRA := hide (blk_own HAA.out HR4.out)
          have s3' := cell_block HRA.out 0
          have s4' := froz_block HRA.out 0
          have HOI : Hid (OwnI (w.heap.size + 3) (w4.alloc (.cells #[.int .i64 x.k, .int .i64 x.r] 38)) (.slice (some ⟨w4.heap.size, 0, none⟩) 1 1) [x]) := own_of (by omega) (blk_alloc w4 _) (by rfl) (by unfold maxLen; omega) (Nat.le_refl _) (by rfl) (fun j _ => by simp [itmCells])
          have HOL := hide ((ownL_block (b := w4.heap.size + 1) (B := w.heap.size + 3) (ys := [.slice (some ⟨w4.heap.size, 0, none⟩) 1 1]) (by simp) (by simp; omega) (LvsX.one HOI.out) (by simp)).low (k := w.heap.size + 2) (j := 0) (u := .slice (some ⟨w4.heap.size + 1, 0, none⟩) 1 1) (by omega))
          have HF : Hid (Below w.heap.size w (((w4.alloc (.cells #[.int .i64 x.k, .int .i64 x.r] 38)).alloc (.cells #[.slice (some ⟨w4.heap.size, 0, none⟩) 1 1] 28)).setCell ⟨w.heap.size + 2, 0, none⟩ (.slice (some ⟨w4.heap.size + 1, 0, none⟩) 1 1))) := (H4.out.trans (HAA.out.mono (by omega))).setCell (by simp) _
          have S3 := hide (set_block HRA.out 0 (.slice (some ⟨w4.heap.size + 1, 0, none⟩) 1 1))
          have s5 := cell_block S3.out 0
          clear hOK
          have hOK : Hid (insOk t x) := ⟨HY.out, HQ2.out, HQ3.out, by have := HN.out; omega⟩
          go_wp2_with fail
          all_goals go_tidy
          refine ⟨rfl, .tuple #[.agg #[.slice (some ⟨w4.heap.size + 1, 0, none⟩) 1 1], .bool true], by simp [results, Try.results36, go_sem, s5], chRet_yes hOK.out (by rw [HT0.out]; exact HOL.out.mono (by omega)) HF.out⟩
        · have h0' : ((t.length : Int) == 0) = false := beq_false_of_ne (by omega)
          have hpos : 0 < t.length := by omega
          obtain ⟨p, hpe⟩ : ∃ p, p = leafAt t x t.length := ⟨_, rfl⟩
          have hp : p < t.length := hpe ▸ leafAt_lt x hpos
          have HIT : Hid (insT t x = withT t p 1 (insK t[p] (posI t[p] x) x)) := by subst hpe; exact insT_pos HY.out HQ3.out hpos
          have HLF := hide (fun z hz => leafFor_any (.slice ta t.length tc) t x z hz HY.out.ne)
          rw [← hpe] at HLF
          clear hpe
          go_wp2_with fail
          refine (HLF.out _ (HLV.out.keep H4.out)).mono ?_
          rintro e w5 ⟨rfl, hb⟩
          have H5 : Hid (Below w.heap.size w w5) := H4.out.trans (hb.mono H4.out.size)
          have HT5 := hide (blk_own hb HT4.out)
          have HX5 := hide (blk_own hb HX4.out)
          have HR5 := hide (blk_own hb HR4.out)
          have hsl := srt_sub HY.out.srt (List.getElem_mem hp)
          have hl4 := (HY.out.len _ (List.getElem_mem hp)).2
          have hlv : Lvs w (.slice ta t.length tc) t := HLV.out
          clear hb HLF HT4 HX4 HR4 s0 s1 s2 s3 s4 hbs H4 HQ3 HQ2
          obtain ⟨ta', tc', he, htc, htc2, hd⟩ := hlv
          injection he with he1 _ he2
          subst he1; subst he2
          obtain ⟨b, off, rfl, hbb, hcell⟩ := hd.resolve_left (by rintro rfl; simp at hpos)
          obtain ⟨lv, e0, hlv, -⟩ := hcell p hp
          have e0 := (H5.out.cell hbb).trans e0
          have hlv := hlv.keep H5.out
          have hbb0 := hbb
          have hbb : b < w5.heap.size := by have := H5.out.size; omega
          obtain ⟨la, lc, rfl⟩ := itms_shape hlv
          have HLF := hide hlv
          have hbs := lt_block HR5.out
          have hb0 : w.heap.size < w5.heap.size := by omega
          have hb1 : w.heap.size + 1 < w5.heap.size := by omega
          have g0 := fun z : BW w5 => bw_cell (p := ⟨w.heap.size, 0, none⟩) hb0 (cell_block HT5.out 0) z
          have g1 := fun z : BW w5 => bw_cell (p := ⟨w.heap.size + 1, 0, none⟩) hb1 (cell_block HX5.out 0) z
          have g2 := fun z : BW w5 => bw_cell (p := ⟨w.heap.size + 1, 1, none⟩) hb1 (cell_block HX5.out 1) z
          have g3 := fun z : BW w5 => bw_cell (p := ⟨b, off + p, none⟩) hbb e0 z
          have HBS := hide (fun z (hz : Below w5.heap.size w5 z) => bsI_any _ _ x z (HLF.out.keep hz) hsl (by omega))
          have hpt : p < t.length := hp
          have hp' : (p : Int) < (t.length : Int) := by omega
          clear hd hcell hlv hsl
          obtain ⟨L, hL⟩ : ∃ L, t[p] = L := ⟨_, rfl⟩
          rw [hL] at e0 HLF HBS hl4 HIT g3
          clear hL
          obtain ⟨P, hP⟩ : ∃ P, posI L x = P := ⟨_, rfl⟩
          have hPL : P ≤ L.length := by rw [← hP]; exact posI_le _ _
          rw [hP] at HBS HIT
          clear hP
          go_wp2_with fail
          refine wp_region_bw (by kernel_rfl) (by kernel_rfl) ?_
          repeat (go_big_quiet_step (first | (go_at_call 54; with_reducible exact bw_of (HBS.out _ (by first | exact BW.h _)))))
          refine wpQuiet_nil ?_
          rintro _ ⟨z, rfl⟩
          have hzh := z.h
          have hzs := hzh.size
          clear g0 g1 g2 g3 HBS
          generalize z.v = W at *
          have HW : Hid (Below w.heap.size w W) := H5.out.trans (hzh.mono H5.out.size)
          have HT := hide (blk_own hzh HT5.out)
          have HX := hide (blk_own hzh HX5.out)
          have HR := hide (blk_own hzh HR5.out)
          have e0 := (hzh.cell hbb).trans e0
          have hbW : b < W.heap.size := by omega
          have HLL := hide (fun z (hz : Below W.heap.size W z) => (HLV.out.keep HW.out).keep hz)
          have HLF := hide (fun z (hz : Below W.heap.size W z) => (HLF.out.keep hzh).keep hz)
          have HCL := hide (fun z (hz : Below W.heap.size W z) => cloneI_any _ _ z (HLF.out z hz) (by omega))
          have HDW : Hid (Below W.heap.size W W.drew) := (Below.refl _ _).drew
          have hbs := lt_block HR.out
          have hWW := HW.out.size
          have ht30 : t.length ≤ 30 := HY.out.leaves
          have hil : (insK L P x).length ≤ 1000 := by rw [insK_len hPL]; omega
          have ht1000 : t.length ≤ 1000 := by omega
          have hls : ∀ g ∈ t, g.length ≤ 1000 := fun g hg => Nat.le_trans (HY.out.len g hg).2 (by omega)
          clear HT5 HX5 HR5 H5 hb0 hb1 hzh hzs hbb
          have HDA : Hid (∀ o, Below W.heap.size W ((W.alloc o).drew)) := fun o => (below_box W o).drew
          have hb0 : w.heap.size < W.heap.size := by omega
          have hb1 : w.heap.size + 1 < W.heap.size := by omega
          have HS : Hid (∀ z, Below W.heap.size W z → (z.cell? ⟨w.heap.size, 0, none⟩ = some (.slice (some ⟨b, off, none⟩) t.length tc) ∧ z.cell? ⟨w.heap.size + 1, 0, none⟩ = some (.int .i64 x.k) ∧ z.cell? ⟨w.heap.size + 1, 1, none⟩ = some (.int .i64 x.r) ∧ z.cell? ⟨b, off + p, none⟩ = some (.slice la L.length lc))) :=
            fun z hz => ⟨(hz.cell (p := ⟨w.heap.size, 0, none⟩) hb0).trans (cell_block HT.out 0), (hz.cell (p := ⟨w.heap.size + 1, 0, none⟩) hb1).trans (cell_block HX.out 0), (hz.cell (p := ⟨w.heap.size + 1, 1, none⟩) hb1).trans (cell_block HX.out 1), (hz.cell (p := ⟨b, off + p, none⟩) hbW).trans e0⟩
          have HS2 : Hid (∀ z u, Below W.heap.size W z → ((z.setCell ⟨w.heap.size + 1 + 1, 0, none⟩ u).cell? ⟨w.heap.size, 0, none⟩ = some (.slice (some ⟨b, off, none⟩) t.length tc) ∧ (z.setCell ⟨w.heap.size + 1 + 1, 0, none⟩ u).cell? ⟨w.heap.size + 1, 0, none⟩ = some (.int .i64 x.k) ∧ (z.setCell ⟨w.heap.size + 1 + 1, 0, none⟩ u).cell? ⟨w.heap.size + 1, 1, none⟩ = some (.int .i64 x.r) ∧ (z.setCell ⟨w.heap.size + 1 + 1, 0, none⟩ u).cell? ⟨b, off + p, none⟩ = some (.slice la L.length lc))) := by
            intro z u hz
            obtain ⟨h1, h2, h3, h4⟩ := HS.out z hz
            have hk : ∀ k o, k ≠ w.heap.size + 1 + 1 → (z.setCell ⟨w.heap.size + 1 + 1, 0, none⟩ u).cell? ⟨k, o, none⟩ = z.cell? ⟨k, o, none⟩ := fun k o hne => World.cell?_of_block (a := ⟨k, o, none⟩) (Below.heap_setCell z ⟨w.heap.size + 1 + 1, 0, none⟩ u k hne)
            exact ⟨(hk _ _ (by omega)).trans h1, (hk _ _ (by omega)).trans h2, (hk _ _ (by omega)).trans h3, (hk _ _ (by omega)).trans h4⟩
          go_wp2_with fail
          go_region_held3 (fun z => z.cell? ⟨w.heap.size, 0, none⟩ = some (.slice (some ⟨b, off, none⟩) t.length tc) ∧ z.cell? ⟨w.heap.size + 1, 0, none⟩ = some (.int .i64 x.k) ∧ z.cell? ⟨w.heap.size + 1, 1, none⟩ = some (.int .i64 x.r) ∧ z.cell? ⟨b, off + p, none⟩ = some (.slice la L.length lc)) (first | exact HS.out _ (Below.refl _ _) | exact HS.out _ HDW.out | exact HS.out _ HB3.out | exact HS.out _ (HDA.out _) | exact HS.out _ (HB3.out.alloc HB3.out.size _) | exact HS.out _ HB4.out | exact HS.out _ HB7.out | exact HS2.out _ _ HB7.out) (first
            | (go_at_call 43; (with_reducible refine (HCL.out _ HDW.out).mono ?_); rintro e w3 ⟨v3, rfl, ho, hb⟩; have HO3 : Hid (OwnI W.heap.size w3 v3 L) := ho; have HB3 : Hid (Below W.heap.size W w3) := HDW.out.trans hb; obtain ⟨a3, c3, rfl, -⟩ := own_slc ho; have HNE3 : Hid ((Value.slice a3 L.length c3).ownBlock ≠ some w3.heap.size) := (fun e => by have := (World.ownsRow.lt HO3.out _ e).2; omega); clear ho hb)
            | (go_at_call 43; (with_reducible refine (HCL.out _ (HDA.out (.cells #[.int .i64 x.k, .int .i64 x.r] 38))).mono ?_); rintro e w3 ⟨v3, rfl, ho, hb⟩; have HO3 : Hid (OwnI W.heap.size w3 v3 L) := own_mono ho (HDA.out (.cells #[.int .i64 x.k, .int .i64 x.r] 38)).size; have HB3 : Hid (Below W.heap.size W w3) := (HDA.out (.cells #[.int .i64 x.k, .int .i64 x.r] 38)).trans (hb.mono (HDA.out (.cells #[.int .i64 x.k, .int .i64 x.r] 38)).size); obtain ⟨a3, c3, rfl, -⟩ := own_slc ho; have HV3 := hide (blk_own hb (blk_drew0 (blk_alloc W (.cells #[.int .i64 x.k, .int .i64 x.r] 38)))); have HNE3 : Hid ((Value.slice a3 L.length c3).ownBlock ≠ some W.heap.size) := (fun e => by have h1 := (World.ownsRow.lt ho _ e).1; have h2 := lt_block (blk_drew0 (blk_alloc W (.cells #[.int .i64 x.k, .int .i64 x.r] 38))); omega); clear ho hb)
            | (go_at_call 68; (with_reducible refine (insI_any W.heap.size w3.heap.size _ P _ x L _ (HO3.out.alloc _) (HB3.out.alloc HB3.out.size _).size (by omega) hPL (blk_alloc w3 _) HNE3.out).mono ?_); rintro e w4 ⟨g4, c4, rfl, ho, hg, hat⟩; have HO4 := hide ho; have HB4 : Hid (Below W.heap.size W w4) := (HB3.out.alloc HB3.out.size _).grown hg (HB3.out.alloc HB3.out.size _).size (fun q hq => (World.ownsRow.lt HO3.out q hq).1); clear ho hg hat)
            | (go_at_call 68; (with_reducible refine (insI_any W.heap.size W.heap.size _ P _ x L _ HO3.out HB3.out.size (by omega) hPL HV3.out HNE3.out).mono ?_); rintro e w4 ⟨g4, c4, rfl, ho, hg, hat⟩; have HO4 := hide ho; have HB4 : Hid (Below W.heap.size W w4) := HB3.out.grown hg HB3.out.size (fun q hq => (World.ownsRow.lt HO3.out q hq).1); clear ho hg hat)
            | (go_at_call 57; (with_reducible refine (with1_any _ t _ _ p _ (HLL.out _ HB4.out) HO4.out.itms hil ht1000 hp hls).mono ?_); rintro e w7 ⟨v7, rfl, ho, hb⟩; have HB7 : Hid (Below W.heap.size W w7) := HB4.out.trans (hb.mono HB4.out.size); have HO7 := hide (ho.mono (B' := W.heap.size) HB4.out.size); have HR7 := hide (blk_own HB7.out HR.out); have D0 := cell_block HR7.out 0; have DF := froz_block HR7.out 0; obtain ⟨a7, n7, c7, rfl⟩ := ownL_any ho; clear ho hb))
          all_goals
            have HF : Hid (Below w.heap.size w (w7.setCell ⟨w.heap.size + 2, 0, none⟩ (.slice a7 n7 c7))) := (HW.out.trans (HB7.out.mono HW.out.size)).setCell (by simp) _
            have S3 := hide (set_block HR7.out 0 (.slice a7 n7 c7))
            have s5 := cell_block S3.out 0
            have HOF := hide ((HO7.out.low (k := w.heap.size + 2) (j := 0) (u := .slice a7 n7 c7) hbs).mono (B' := w.heap.size) (by omega))
            rw [← HIT.out] at HOF
            clear HLL HLF HCL HS
            go_wp2_with fail
            all_goals go_tidy
            refine ⟨rfl, .tuple #[.agg #[.slice a7 n7 c7], .bool true], by simp [results, Try.results36, go_sem, s5], chRet_yes hOK.out HOF.out HF.out⟩
end Go.Proofs.Ytmlphdniiiijpaa
