/-
  with of the program.
-/
import Derived.Test.YtmlphdniiiijpaaTreeW
set_option linter.all false
namespace Go.Proofs.Ytmlphdniiiijpaa
open Go.RowKit
/-- what with has put together behind k leaves -/
def withK (t : List (List Itm)) (p q : Nat) (f : List Itm) : Nat → List (List Itm)
  | 0 => []
  | k + 1 => withK t p q f k ++ (if k = p then divL f else []) ++ (if k < p ∨ p + q ≤ k then [t.getD k []] else [])
theorem withK_eq {t : List (List Itm)} {p q : Nat} {f : List Itm} (hq : 1 ≤ q) : ∀ k, k ≤ t.length → withK t p q f k = t.take (min p k) ++ (if p < k then divL f else []) ++ (t.take k).drop (p + q) := by
  intro k
  induction k with
  | zero => intro _; simp [withK]
  | succ k ih =>
    intro hk
    rw [withK, ih (by omega)]
    have hg : t.getD k [] = t[k] := by rw [List.getD_eq_getElem?_getD, List.getElem?_eq_getElem (by omega)]; rfl
    have ht : t.take (k + 1) = t.take k ++ [t[k]] := List.take_succ_eq_append_getElem (by omega)
    rcases Nat.lt_trichotomy k p with h | h | h
    · rw [if_neg (show ¬ p < k by omega), if_neg (show ¬ k = p by omega), if_pos (.inl h), if_neg (show ¬ p < k + 1 by omega), Nat.min_eq_right (by omega), Nat.min_eq_right (by omega), hg,
        List.drop_eq_nil_of_le (by rw [List.length_take]; omega), List.drop_eq_nil_of_le (by rw [List.length_take]; omega), ht]
      simp
    · subst h
      rw [if_neg (show ¬ k < k by omega), if_pos rfl, if_neg (show ¬ (k < k ∨ k + q ≤ k) by omega), if_pos (show k < k + 1 by omega), Nat.min_self, Nat.min_eq_left (by omega),
        List.drop_eq_nil_of_le (by rw [List.length_take]; omega), List.drop_eq_nil_of_le (by rw [List.length_take]; omega)]
      simp
    · rw [if_pos h, if_neg (show ¬ k = p by omega), if_pos (show p < k + 1 by omega), Nat.min_eq_left (by omega), Nat.min_eq_left (by omega)]
      by_cases h2 : p + q ≤ k
      · rw [if_pos (.inr h2), hg, ht, List.drop_append_of_le_length (by rw [List.length_take]; omega)]
        simp
      · rw [if_neg (by omega), List.drop_eq_nil_of_le (by rw [List.length_take]; omega), List.drop_eq_nil_of_le (by rw [List.length_take]; omega)]
        simp
theorem withK_end {t : List (List Itm)} {p q : Nat} {f : List Itm} (hq : 1 ≤ q) (hp : p < t.length) : withK t p q f t.length = withT t p q f := by
  rw [withK_eq hq t.length (Nat.le_refl _), if_pos hp, Nat.min_eq_left (by omega), List.take_length]; rfl
theorem withK_len (t : List (List Itm)) (p q : Nat) (f : List Itm) : ∀ k, (withK t p q f k).length ≤ 3 * k
  | 0 => by simp [withK]
  | k + 1 => by
    have h1 := withK_len t p q f k
    have h2 := (divL_count f).1
    rw [withK, List.length_append, List.length_append]
    have a : (if k = p then divL f else []).length ≤ 2 := by split; exact h2; exact Nat.zero_le _
    have b : (if k < p ∨ p + q ≤ k then [t.getD k []] else []).length ≤ 1 := by split; exact Nat.le_refl 1; exact Nat.zero_le _
    omega
theorem withK_at {t : List (List Itm)} {p q : Nat} {f : List Itm} (hq : 1 ≤ q) : withK t p q f (p + 1) = withK t p q f p ++ divL f := by
  rw [withK, if_pos rfl, if_neg (by omega)]; simp
theorem withK_old {t : List (List Itm)} {p q k : Nat} {f : List Itm} (hk : k < t.length) (h : ¬ k = p) (h2 : k < p ∨ p + q ≤ k) : withK t p q f (k + 1) = withK t p q f k ++ [t[k]] := by
  rw [withK, if_neg h, if_pos h2, List.append_nil]
  congr 2
  rw [List.getD_eq_getElem?_getD, List.getElem?_eq_getElem hk]; rfl
theorem withK_gap {t : List (List Itm)} {p q k : Nat} {f : List Itm} (h : ¬ k = p) (h2 : ¬ (k < p ∨ p + q ≤ k)) : withK t p q f (k + 1) = withK t p q f k := by
  rw [withK, if_neg h, if_neg h2]; simp
theorem ownL_any {B : Nat} {w : World} {v : Value} {fs : List (List Itm)} (h : OwnL B w v fs) : ∃ a n c, v = .slice a n c := by
  obtain ⟨a, c, e, -⟩ := ownL_slc h
  exact ⟨a, _, c, e⟩
def LTRet (w : World) (fs : List (List Itm)) (e : Ending) (w' : World) : Prop := ∃ v', e = .returned (.agg #[v']) ∧ OwnL w.heap.size w' v' fs ∧ Below w.heap.size w w'
theorem cell_alloc {w : World} {p : Addr} (h : p.block < w.heap.size) (o : Obj) : (w.alloc o).cell? p = w.cell? p := World.cell?_of_block (w := w) (Below.heap_alloc w o p.block h)
theorem froz_alloc {w : World} {p : Addr} (h : p.block < w.heap.size) (o : Obj) : (w.alloc o).frozen? p = w.frozen? p := World.frozen?_of_block (w := w) (Below.heap_alloc w o p.block h)
set_option maxHeartbeats 16000000 in
set_option maxRecDepth 100000 in
theorem with_any (v : Value) (t : List (List Itm)) (lv : Value) (f : List Itm) (p q : Nat) (w : World) (h : Lvs w v t) (hf : Itms w lv f) (hf5 : f.length ≤ 1000) (hq : 1 ≤ q) (hq9 : q ≤ 1000) (ht : t.length ≤ 1000) (hp : p < t.length) (hls : ∀ g ∈ t, g.length ≤ 1000) :
    Calls Try.prog 57 #[.agg #[v], .int .i64 (p : Int), .int .i64 (q : Int), lv] w (LTRet w (withT t p q f)) := by
  obtain ⟨la, lc, rfl⟩ := itms_shape hf
  have HDV := hide (fun z (hz : Below w.heap.size w z) => divided_any _ f z (hf.keep hz) hf5)
  obtain ⟨a, cap, rfl, hl, hcap, hd⟩ := h
  obtain ⟨R, hR⟩ : ∃ R, R = withT t p q f := ⟨_, rfl⟩
  rw [← hR]
  have HR : Hid (R = withK t p q f t.length) := by unfold Hid; rw [hR, withK_end hq hp]
  clear hR hf
  have HX0 := hide (blk_keep (blk_keep (blk_alloc w (.cells #[.slice a t.length cap] 25)) (.cells #[.slice none 0 0] 25)) (.cells #[.slice none 0 0] 25))
  have HZ0 := hide (blk_keep (blk_at (W := w.alloc (.cells #[.slice a t.length cap] 25)) (b := w.heap.size + 1) (by simp) (.cells #[.slice none 0 0] 25)) (.cells #[.slice none 0 0] 25))
  have HG0 := hide (blk_at (W := (w.alloc (.cells #[.slice a t.length cap] 25)).alloc (.cells #[.slice none 0 0] 25)) (b := w.heap.size + 2) (by simp) (.cells #[.slice none 0 0] 25))
  have HB0 := hide ((below_box2 w (.cells #[.slice a t.length cap] 25) (.cells #[.slice none 0 0] 25)).alloc (by simp; omega) (.cells #[.slice none 0 0] 25))
  go_enter Try.func57, Try.ntmps57
  go_wp2_with fail
  go_loopg [15] t.length (fun gk s15 wr => Below w.heap.size w wr ∧ wr.heap[w.heap.size]? = some (.cells #[.slice a t.length cap] 25 (0, 0)) ∧ wr.heap[w.heap.size + 1]? = some (.cells #[.slice none 0 0] 25 (0, 0)) ∧ ∃ k : Nat, k + gk = t.length ∧ s15 = .int .i64 (k : Int) ∧ ∃ rv, wr.heap[w.heap.size + 2]? = some (.cells #[rv] 25 (0, 0)) ∧ OwnL (w.heap.size + 3) wr rv (withK t p q f k))
  case atStart => exact ⟨HB0.out, HX0.out, HZ0.out, 0, by omega, rfl, _, HG0.out, OwnL.nil _ _⟩
  case round =>
    clear HB0 HX0 HZ0 HG0
    obtain ⟨hbw, hbx, hbz, k, hk, rfl, rv, hbg, hown⟩ := hrel
    have HW := hide hbw
    have HX := hide hbx
    have HZ := hide hbz
    have HG := hide hbg
    have HO := hide hown
    obtain ⟨ra, rc, rfl, -, hrc⟩ := ownL_slc hown
    have hgl := lt_block hbg
    have c0 := cell_block hbg 0
    have f0 := froz_block hbg 0
    clear hbx hbz hbg hown
    by_cases hlt : k < t.length
    · obtain ⟨b, off, rfl, hbb, hcell⟩ := hd.resolve_left (by rintro rfl; simp at hlt)
      obtain ⟨ov, e0, hov, -⟩ := hcell k hlt
      have e0 := (hbw.cell hbb).trans e0
      obtain ⟨oa, oc, rfl⟩ := itms_shape hov
      have hog : t[k].length ≤ 1000 := hls _ (List.getElem_mem hlt)
      have HCL := hide (fun z (hz : Below wr.heap.size wr z) => cloneI_any _ _ z ((hov.keep hbw).keep hz) (Nat.le_trans hog (by omega)))
      have HDW : Hid (Below wr.heap.size wr wr.drew) := (Below.refl _ _).drew
      have HOL := hide (fun h1 h2 => withK_old (f := f) (p := p) (q := q) hlt h1 h2)
      have hlen := withK_len t p q f k
      have HD2 := hide (HDV.out _ (HW.out.trans (HDW.out.mono HW.out.size)))
      have hB3 : w.heap.size + 3 ≤ wr.heap.size := by omega
      clear hcell hd hbw hov
      generalize t[k] = old at *
      obtain ⟨L0, hL0⟩ : ∃ L0, withK t p q f k = L0 := ⟨_, rfl⟩
      rw [hL0] at HO HOL hlen
      have HL0 := hide hL0
      rw [hL0] at c0 HG
      clear hL0
      have hdl := (divL_count f).1
      by_cases hkp : k = p
      · subst hkp
        have HN : Hid (withK t k q f (k + 1) = L0 ++ divL f) := by unfold Hid; rw [withK_at hq, HL0.out]
        have hkq : ¬ (k : Int) < (k : Int) := by omega
        have hkq2 : ¬ (k : Int) + (q : Int) ≤ (k : Int) := by omega
        have dkq2 : decide ((k : Int) + (q : Int) ≤ (k : Int)) = false := decide_eq_false hkq2
        clear HOL
        obtain ⟨GS, hGS⟩ : ∃ GS, divL f = GS := ⟨_, rfl⟩
        rw [hGS] at HD2 HN hdl
        clear hGS HDV
        go_wp2_with fail
        go_region_law (first
          | (go_simp; go_at_call 75; (with_reducible refine (HD2.out).mono ?_); rintro e w3 ⟨v3, rfl, ho, hb⟩; have HB3 : Hid (Below wr.heap.size wr w3) := HDW.out.trans hb; have HG3 := hide (blk_own HB3.out HG.out); have HX3 := hide (blk_own HB3.out HX.out); have HZ3 := hide (blk_own HB3.out HZ.out); have hg3 := lt_block HG3.out; have C0 := cell_block HG3.out 0; have CF := froz_block HG3.out 0; obtain ⟨ys, hnw, hlx⟩ := ho.news; have HNW := hide hnw; have HLX := hide hlx; obtain ⟨va3, vc3, rfl, -, -⟩ := ownL_slc ho; clear ho hb hnw hlx)
          | (refine step_appL _ rfl (.tmp 24) (.tmp 26) rfl (w.heap.size + 3) wr (.slice ra L0.length rc) L0 (by rfl) HO.out HB3.out hB3 (by omega) _ _ GS (by rfl) HNW.out HLX.out (by first | omega | simp) ?_; intro v4 w4 ho4 hb4; have HG4 := hide ((hb4.block (w.heap.size + 2) (by omega)).trans HG3.out); have HX4 := hide ((hb4.block w.heap.size (by omega)).trans HX3.out); have HZ4 := hide ((hb4.block (w.heap.size + 1) (by omega)).trans HZ3.out); have HO4 := hide ho4; have HB4 : Hid (Below (w.heap.size) wr w4) := ((HB3.out).mono (by omega)).trans (hb4.mono (by omega)); have D0 := cell_block HG4.out 0; have DF := froz_block HG4.out 0; obtain ⟨va4, n4, vc4, rfl⟩ := ownL_any ho4; clear ho4 hb4))
        all_goals
          have HF : Hid (Below w.heap.size w (w4.setCell ⟨w.heap.size + 2, 0, none⟩ (.slice va4 n4 vc4))) := (HW.out.trans HB4.out).setCell (by simp) _
          have HXF := hide ((Below.heap_setCell w4 ⟨w.heap.size + 2, 0, none⟩ (.slice va4 n4 vc4) w.heap.size (by simp)).trans HX4.out)
          have HZF := hide ((Below.heap_setCell w4 ⟨w.heap.size + 2, 0, none⟩ (.slice va4 n4 vc4) (w.heap.size + 1) (by simp)).trans HZ4.out)
          have HGF := hide (set_block HG4.out 0 (.slice va4 n4 vc4))
          have HOF := hide (HO4.out.low (k := w.heap.size + 2) (j := 0) (u := .slice va4 n4 vc4) (by omega))
          clear D0 DF C0 c0 f0 CF
          go_wp2_with fail
          go_roundg (gk - 1)
          case measure => omega
          case rel => exact ⟨HF.out, HXF.out, HZF.out, k + 1, by omega, by go_num, _, HGF.out, by rw [HN.out]; exact HOF.out⟩
      · have dkp : ((k : Int) == (p : Int)) = false := beq_false_of_ne (by omega)
        by_cases hcase : k < p ∨ p + q ≤ k
        · have HN := hide (HOL.out hkp hcase)
          clear HOL HDV HD2 hdl
          obtain ⟨GS, hGS⟩ : ∃ GS, [old] = GS := ⟨_, rfl⟩
          have hgl1 : GS.length = 1 := by rw [← hGS]; rfl
          have HGS := hide hGS
          rw [hGS] at HN
          clear hGS
          have hdd : (k : Int) < (p : Int) ∨ (¬ (k : Int) < (p : Int) ∧ (p : Int) + (q : Int) ≤ (k : Int)) := by omega
          rcases hdd with hkl | ⟨hkl, hkl2⟩
          all_goals
            clear hcase hkp
            go_wp2_with fail
            go_region_law (first
              | (go_simp; go_at_call 43; (with_reducible refine (HCL.out _ HDW.out).mono ?_); rintro e w3 ⟨v3, rfl, ho, hb⟩; have HB3 : Hid (Below wr.heap.size wr w3) := HDW.out.trans hb; have HG3 := hide (blk_own HB3.out HG.out); have HX3 := hide (blk_own HB3.out HX.out); have HZ3 := hide (blk_own HB3.out HZ.out); have hg3 := lt_block HG3.out; have C0 := cell_block HG3.out 0; have CF := froz_block HG3.out 0; have HO3 := hide ho; have AC : ∀ o, (w3.alloc o).cell? ⟨w.heap.size + 2, 0, none⟩ = some (.slice ra L0.length rc) := (fun o => (cell_alloc (p := ⟨w.heap.size + 2, 0, none⟩) hg3 o).trans C0); obtain ⟨va3, vc3, rfl, -⟩ := own_slc ho; have HLX := hide (LvsX.one (HO3.out.alloc (.cells #[.slice va3 old.length vc3] 28))); rw [HGS.out] at HLX; clear ho hb)
              | (refine step_appL _ rfl (.tmp 40) (.tmp 43) rfl (w.heap.size + 3) wr (.slice ra L0.length rc) L0 (by rfl) HO.out (HB3.out.alloc HB3.out.size (.cells #[.slice va3 old.length vc3] 28)) hB3 (by omega) (.slice (some ⟨w3.heap.size, 0, none⟩) 1 1) [.slice va3 old.length vc3] GS (by rfl) (.inr ⟨⟨w3.heap.size, 0, none⟩, 1, rfl, World.news_of_block (cs := #[.slice va3 old.length vc3]) (blk_alloc w3 _)⟩) HLX.out (by first | omega | simp) ?_; intro v4 w4 ho4 hb4; have HG4 := hide ((hb4.block (w.heap.size + 2) (by omega)).trans (blk_keep HG3.out _)); have HX4 := hide ((hb4.block w.heap.size (by omega)).trans (blk_keep HX3.out _)); have HZ4 := hide ((hb4.block (w.heap.size + 1) (by omega)).trans (blk_keep HZ3.out _)); have HO4 := hide ho4; have HB4 : Hid (Below (w.heap.size) wr w4) := (((HB3.out.alloc HB3.out.size (.cells #[.slice va3 old.length vc3] 28))).mono (by omega)).trans (hb4.mono (by omega)); have D0 := cell_block HG4.out 0; have DF := froz_block HG4.out 0; obtain ⟨va4, n4, vc4, rfl⟩ := ownL_any ho4; clear ho4 hb4))
            all_goals
              have HF : Hid (Below w.heap.size w (w4.setCell ⟨w.heap.size + 2, 0, none⟩ (.slice va4 n4 vc4))) := (HW.out.trans HB4.out).setCell (by simp) _
              have HXF := hide ((Below.heap_setCell w4 ⟨w.heap.size + 2, 0, none⟩ (.slice va4 n4 vc4) w.heap.size (by simp)).trans HX4.out)
              have HZF := hide ((Below.heap_setCell w4 ⟨w.heap.size + 2, 0, none⟩ (.slice va4 n4 vc4) (w.heap.size + 1) (by simp)).trans HZ4.out)
              have HGF := hide (set_block HG4.out 0 (.slice va4 n4 vc4))
              have HOF := hide (HO4.out.low (k := w.heap.size + 2) (j := 0) (u := .slice va4 n4 vc4) (by omega))
              clear D0 DF C0 c0 f0 CF
              go_wp2_with fail
              go_roundg (gk - 1)
              case measure => omega
              case rel => exact ⟨HF.out, HXF.out, HZF.out, k + 1, by omega, by go_num, _, HGF.out, by rw [HN.out]; exact HOF.out⟩
        · have HN := hide (withK_gap (t := t) (f := f) hkp hcase)
          have hkl : ¬ (k : Int) < (p : Int) := by omega
          have hkl2 : ¬ (p : Int) + (q : Int) ≤ (k : Int) := by omega
          clear hcase hkp HOL HDV HD2 hdl
          go_wp2_with fail
          go_roundg (gk - 1)
          case measure => omega
          case rel => exact ⟨HW.out, HX.out, HZ.out, k + 1, by omega, by go_num, _, HG.out, by rw [HN.out, HL0.out]; exact HO.out⟩
    · have hkl : k = t.length := by omega
      subst hkl
      clear hd hbw hcap hl
      rw [← HR.out] at HO HG c0
      obtain ⟨z0, y0⟩ : wr.cell? ⟨w.heap.size + 1, 0, none⟩ = some (.slice none 0 0) ∧ wr.frozen? ⟨w.heap.size + 1, 0, none⟩ = false := ⟨cell_block HZ.out 0, froz_block HZ.out 0⟩
      have S1 := hide (set_block HZ.out 0 (.slice ra R.length rc))
      have s1 := cell_block S1.out 0
      have HF : Hid (Below w.heap.size w (wr.setCell ⟨w.heap.size + 1, 0, none⟩ (.slice ra R.length rc))) := HW.out.setCell (by simp) _
      have HOF := hide ((HO.out.low (k := w.heap.size + 1) (j := 0) (u := .slice ra R.length rc) (by omega)).mono (B' := w.heap.size) (by omega))
      go_wp2_with fail
      all_goals go_tidy
      refine ⟨rfl, .agg #[.slice ra R.length rc], by simp [results, Try.results57, go_sem, s1], _, rfl, HOF.out, HF.out⟩
end Go.Proofs.Ytmlphdniiiijpaa
