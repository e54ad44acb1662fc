/-
  The walk of FnExactTreeDelete.
-/
import Derived.Test.YtmlphdniiiijpaaTreeExB
import Derived.Test.YtmlphdniiiijpaaTreeS5
import Derived.Test.YtmlphdniiiijpaaTreeK
set_option linter.all false
namespace Go.Proofs.Ytmlphdniiiijpaa
open Go.RowKit
set_option maxHeartbeats 32000000 in
set_option maxRecDepth 100000 in
theorem exactTreeDelete_walk (v : Value) (t : List (List Itm)) (x : Itm) (w : World) (h : LvsA w v t) :
    Calls Try.prog 7 #[.agg #[v], .agg #[.int .i64 x.k, .int .i64 x.r]] w fun e w' => e = .returned (.bool true) ∧ Below w.heap.size w w' := by
  have E0 := hide h
  have HT := hide (blk_keep (blk_alloc w (.cells #[v] 47)) (.cells #[.int .i64 x.k, .int .i64 x.r] 48))
  have HX := hide (blk_at (W := w.alloc (.cells #[v] 47)) (b := w.heap.size + 1) (by simp) (.cells #[.int .i64 x.k, .int .i64 x.r] 48))
  have H := hide (below_box2 w (.cells #[v] 47) (.cells #[.int .i64 x.k, .int .i64 x.r] 48))
  have HSZ := hide (szTree_any v t 1048576 _ (E0.out.keep H.out) (by omega) (by omega))
  obtain ⟨ta, tn, tc, rfl⟩ : ∃ a n c, v = .slice a n c := by obtain ⟨a, c, e, -⟩ := h; exact ⟨a, _, c, e⟩
  clear h
  go_enter Try.func7, Try.ntmps7
  go_wp2_with fail
  refine HSZ.out.mono ?_
  rintro e w1 ⟨r, rfl, hr0, hr1, hr2, hb⟩
  have H := hide (H.out.trans (hb.mono H.out.size))
  have HT := hide (blk_own hb HT.out)
  have HX := hide (blk_own hb HX.out)
  clear hb HSZ
  by_cases hr : r < 0
  · go_wp2_with fail
    go_ret
    exact ⟨rfl, H.out⟩
  have hn0 : t.length + (flatT t).length ≤ 1048576 := by omega
  have hn : (flatT t).length ≤ 1048576 := by omega
  have ht : t.length ≤ 1048576 := by omega
  have hbx := lt_block HX.out
  have hb0 : w.heap.size < w1.heap.size := by omega
  have hws := H.out.size
  have HTT := hide (fun z (hz : Below w1.heap.size w1 z) => toTree_any (.slice ta tn tc) t z ((E0.out.keep H.out).keep hz) ht hn)
  have c0 := cell_block HT.out 0
  clear hr0 hr1 hr2
  have HDW : Hid (Below w1.heap.size w1 w1.drew) := (Below.refl _ _).drew
  have HDA : Hid (Below w1.heap.size w1 (w1.alloc (.cells #[.slice none 0 0] 25)).drew) := (below_box w1 _).drew
  have HS : Hid (∀ z, Below w1.heap.size w1 z → (z.cell? ⟨w.heap.size, 0, none⟩ = some (.slice ta tn tc) ∧ z.cell? ⟨w.heap.size + 1, 0, none⟩ = some (.int .i64 x.k) ∧ z.cell? ⟨w.heap.size + 1, 1, none⟩ = some (.int .i64 x.r))) := fun z hz => ⟨(hz.cell (p := ⟨w.heap.size, 0, none⟩) hb0).trans (cell_block HT.out 0), (hz.cell (p := ⟨w.heap.size + 1, 0, none⟩) hbx).trans (cell_block HX.out 0), (hz.cell (p := ⟨w.heap.size + 1, 1, none⟩) hbx).trans (cell_block HX.out 1)⟩
  have HS2 : Hid (∀ z k u, Below w1.heap.size w1 z → w1.heap.size ≤ k → ((z.setCell ⟨k, 0, none⟩ u).cell? ⟨w.heap.size, 0, none⟩ = some (.slice ta tn tc) ∧ (z.setCell ⟨k, 0, none⟩ u).cell? ⟨w.heap.size + 1, 0, none⟩ = some (.int .i64 x.k) ∧ (z.setCell ⟨k, 0, none⟩ u).cell? ⟨w.heap.size + 1, 1, none⟩ = some (.int .i64 x.r))) := by
    intro z k u hz hk
    have hk2 : ∀ q o, q < w1.heap.size → (z.setCell ⟨k, 0, none⟩ u).cell? ⟨q, o, none⟩ = z.cell? ⟨q, o, none⟩ := fun q o hq => World.cell?_of_block (a := ⟨q, o, none⟩) (Below.heap_setCell z ⟨k, 0, none⟩ u q (by show q ≠ k; omega))
    have hh := HS.out z hz
    exact ⟨(hk2 _ _ hb0).trans hh.1, (hk2 _ _ hbx).trans hh.2.1, (hk2 _ _ hbx).trans hh.2.2⟩
  go_wp2_with fail
  go_cut [6, 7] (fun s6 s7 wx => ∃ (g6 : Nat) (rv : Value) (r : List (List Itm)) (b : Bool), s6 = .pointer (some ⟨g6, 0, none⟩) ∧ s7 = .bool b ∧ w1.heap.size ≤ g6 ∧ wx.heap[g6]? = some (.cells #[rv] 25 (0, 0)) ∧ ChgOf (delOk t x) (delT t x) r b ∧ Lvs wx rv r ∧ Below w1.heap.size w1 wx)
  case first =>
    go_region_held3 (fun z => (z.cell? ⟨w.heap.size, 0, none⟩ = some (.slice ta tn tc) ∧ z.cell? ⟨w.heap.size + 1, 0, none⟩ = some (.int .i64 x.k) ∧ z.cell? ⟨w.heap.size + 1, 1, none⟩ = some (.int .i64 x.r))) (first | exact HS.out _ (Below.refl _ _) | exact HS.out _ HDW.out | exact HS.out _ HDA.out | exact HS.out _ HBa.out | exact HS.out _ (HBa.out.alloc HBa.out.size _) | exact HS.out _ HBb.out | exact HS.out _ (HBb.out.alloc HBb.out.size _) | exact HS.out _ HBd.out | exact HS.out _ (HBd.out.alloc HBd.out.size _) | exact HS2.out _ _ _ HBd.out (by first | exact Nat.le_refl _ | exact HBa.out.size | exact HBb.out.size)) (first
      | (go_at_call 30; (with_reducible refine (HTT.out _ (by first | exact HDW.out | exact HDA.out)).mono ?_); rintro e wa ⟨va, rfl, hmk, hb⟩; have HBa : Hid (Below w1.heap.size w1 wa) := (by first | exact HDW.out.trans hb | exact HDA.out.trans (hb.mono HDA.out.size)); (first | (have NB := hide (blk_own hb (blk_drew0 (blk_alloc w1 (.cells #[.slice none 0 0] 25))))) | skip); have HLa := hide hmk.lvs; obtain ⟨aa, an, ac, rfl⟩ := hmk.any; clear hmk hb)
      | (go_at_call 31; (with_reducible refine (toItem_any x _).mono ?_); rintro e wb ⟨rfl, hb⟩; have HBb : Hid (Below w1.heap.size w1 wb) := (by first | exact HBa.out.trans (hb.mono HBa.out.size) | exact (HBa.out.alloc HBa.out.size (.cells #[.slice none 0 0] 25)).trans (hb.mono (HBa.out.alloc HBa.out.size (.cells #[.slice none 0 0] 25)).size)); (first | (have NB := hide (blk_own hb NB.out)) | (have NB := hide (blk_own hb (blk_alloc wa (.cells #[.slice none 0 0] 25)))) | skip); have HLb := (by first | exact hide (HLa.out.keep hb) | exact hide ((HLa.out.keep (below_box wa (.cells #[.slice none 0 0] 25))).keep hb)); clear hb)
      | (go_at_call 27; (with_reducible refine (streeDelete_any _ t x wb HLb.out hn).mono ?_); rintro e wd ⟨rv, r, b, rfl, hch, hl, hb⟩; have HBd : Hid (Below w1.heap.size w1 wd) := HBb.out.trans (hb.mono HBb.out.size); (first | (have HKL := hide (lt_block NB.out); have NB := hide (blk_own hb NB.out)) | skip); have HCH := hide hch; have HSZ := hide HBb.out.size; have HWD := hide hb.size; have HLc := hide hl.lvs; have HOc := hide hl; obtain ⟨ca, cn, cc, rfl⟩ := ownR_any hl; (first | (have D0 := cell_block NB.out 0; have DF := froz_block NB.out 0) | skip); clear hch hl hb)
      | (go_at_call 27; (with_reducible refine (streeDelete_any _ t x (wb.alloc (.cells #[.slice none 0 0] 25)) (HLb.out.keep (below_box wb (.cells #[.slice none 0 0] 25))) hn).mono ?_); rintro e wd ⟨rv, r, b, rfl, hch, hl, hb⟩; have HBd : Hid (Below w1.heap.size w1 wd) := (HBb.out.alloc HBb.out.size (.cells #[.slice none 0 0] 25)).trans (hb.mono (HBb.out.alloc HBb.out.size (.cells #[.slice none 0 0] 25)).size); have HKL := hide (lt_block (blk_alloc wb (.cells #[.slice none 0 0] 25))); have NB := hide (blk_own hb (blk_alloc wb (.cells #[.slice none 0 0] 25))); have HCH := hide hch; have HSZ := hide (HBb.out.alloc HBb.out.size (.cells #[.slice none 0 0] 25)).size; have HWD := hide hb.size; have HLc := hide hl.lvs; have HOc := hide hl; obtain ⟨ca, cn, cc, rfl⟩ := ownR_any hl; (first | (have D0 := cell_block NB.out 0; have DF := froz_block NB.out 0) | skip); clear hch hl hb))
    all_goals
      clear HS HS2
      go_wp2_with fail
      go_meet
      first
      | exact ⟨wd.heap.size, _, r, b, rfl, rfl, HBd.out.size, blk_alloc wd _, HCH.out, HOc.out.lvs.keep (below_box wd _), HBd.out.alloc HBd.out.size _⟩
      | exact ⟨w1.heap.size, _, r, b, rfl, rfl, Nat.le_refl _, set_block NB.out 0 _, HCH.out, (HOc.out.boxT NB.out).lvs, HBd.out.setCell (Nat.le_refl _) _⟩
      | exact ⟨wa.heap.size, _, r, b, rfl, rfl, HBa.out.size, set_block NB.out 0 _, HCH.out, (HOc.out.boxT NB.out).lvs, HBd.out.setCell HBa.out.size _⟩
      | exact ⟨wb.heap.size, _, r, b, rfl, rfl, HBb.out.size, set_block NB.out 0 _, HCH.out, (HOc.out.boxT NB.out).lvs, HBd.out.setCell HBb.out.size _⟩
  case rest =>
    obtain ⟨g6, v6, r0, b0, rfl, rfl, hg6, hb6, hck, hl6, hbw⟩ := hcut
    obtain ⟨W2, hW2⟩ : ∃ W, W = wc := ⟨_, rfl⟩
    rw [← hW2] at hb6 hl6 hbw ⊢
    clear hW2
    have CK := hide hck
    have L6 := hide hl6
    have B6 := hide hb6
    have HBW := hide hbw
    have H := hide (H.out.trans (hbw.mono hws))
    have HT := hide (blk_own hbw HT.out)
    have HX := hide (blk_own hbw HX.out)
    have hn30 := chgD_n hck
    obtain ⟨a6, n6, c6, rfl⟩ := hl6.any
    have hg6l := lt_block hb6
    clear hck hl6 hb6 hbw HS HS2 HDW HDA c0
    have c0 := cell_block HT.out 0
    have HTT := hide (fun z (hz : Below W2.heap.size W2 z) => HTT.out z (HBW.out.trans (hz.mono HBW.out.size)))
    go_wp2_with fail
    refine (HTT.out W2 (Below.refl _ _)).mono ?_
    rintro e w3 ⟨v8, rfl, hmk, hb⟩
    obtain ⟨a8, n8, c8, rfl⟩ := hmk.any
    have HBW3 := hide hb
    have M8 := hide (hmk.keep (below_box w3 (.cells #[.slice a8 n8 c8] 25)))
    have B8 := hide (blk_alloc w3 (.cells #[.slice a8 n8 c8] 25))
    have HB4 := hide (hb.trans ((below_box w3 (.cells #[.slice a8 n8 c8] 25)).mono hb.size))
    have hlo8 := hb.size
    have hg8l := lt_block B8.out
    clear hmk hb HBW3
    go_wp2_with fail
    generalize hW4 : w3.alloc (.cells #[.slice a8 n8 c8] 25) = W4 at *
    generalize w3.heap.size = g8 at *
    clear hW4
    have HBL : Hid (Below W2.heap.size W2 W4) := HB4.out
    have H := hide (H.out.trans (HBL.out.mono H.out.size))
    have HT := hide (blk_own HBL.out HT.out)
    have HX := hide (blk_own HBL.out HX.out)
    have B6 := hide (blk_own HBL.out B6.out)
    have hbx := lt_block HX.out
    have hws := H.out.size
    have hb0 : w.heap.size < W4.heap.size := by omega
    have hlo8W := HBL.out.size
    have HLX := hide (fun z (hz : Below W4.heap.size W4 z) => M8.out.lvs.keep hz)
    clear HB4 c0
    have HDW : Hid (Below W4.heap.size W4 W4.drew) := (Below.refl _ _).drew
    have HDA : Hid (Below W4.heap.size W4 (W4.alloc (.cells #[.slice none 0 0] 25)).drew) := (below_box W4 _).drew
    have HS : Hid (∀ z, Below W4.heap.size W4 z → (z.cell? ⟨g8, 0, none⟩ = some (.slice a8 n8 c8) ∧ z.cell? ⟨w.heap.size + 1, 0, none⟩ = some (.int .i64 x.k) ∧ z.cell? ⟨w.heap.size + 1, 1, none⟩ = some (.int .i64 x.r))) := fun z hz => ⟨(hz.cell (p := ⟨g8, 0, none⟩) hg8l).trans (cell_block B8.out 0), (hz.cell (p := ⟨w.heap.size + 1, 0, none⟩) hbx).trans (cell_block HX.out 0), (hz.cell (p := ⟨w.heap.size + 1, 1, none⟩) hbx).trans (cell_block HX.out 1)⟩
    have HS2 : Hid (∀ z k u, Below W4.heap.size W4 z → W4.heap.size ≤ k → ((z.setCell ⟨k, 0, none⟩ u).cell? ⟨g8, 0, none⟩ = some (.slice a8 n8 c8) ∧ (z.setCell ⟨k, 0, none⟩ u).cell? ⟨w.heap.size + 1, 0, none⟩ = some (.int .i64 x.k) ∧ (z.setCell ⟨k, 0, none⟩ u).cell? ⟨w.heap.size + 1, 1, none⟩ = some (.int .i64 x.r))) := by
      intro z k u hz hk
      have hk2 : ∀ q o, q < W4.heap.size → (z.setCell ⟨k, 0, none⟩ u).cell? ⟨q, o, none⟩ = z.cell? ⟨q, o, none⟩ := fun q o hq => World.cell?_of_block (a := ⟨q, o, none⟩) (Below.heap_setCell z ⟨k, 0, none⟩ u q (by show q ≠ k; omega))
      have hh := HS.out z hz
      exact ⟨(hk2 _ _ hg8l).trans hh.1, (hk2 _ _ hbx).trans hh.2.1, (hk2 _ _ hbx).trans hh.2.2⟩
    go_cut [9, 10] (fun s6 s7 wx => ∃ (g9 : Nat) (rv : Value) (lo9 hi9 : Nat) (r : List (List Itm)) (b : Bool), s6 = .pointer (some ⟨g9, 0, none⟩) ∧ s7 = .bool b ∧ W4.heap.size ≤ g9 ∧ wx.heap[g9]? = some (.cells #[rv] 25 (0, 0)) ∧ ChgOf (delOk t x) (delT t x) r b ∧ MkT lo9 hi9 wx rv r ∧ (g9 < lo9 ∨ hi9 ≤ g9) ∧ W4.heap.size ≤ lo9 ∧ lo9 ≤ wx.heap.size ∧ hi9 ≤ wx.heap.size ∧ Below W4.heap.size W4 wx)
    case first =>
      go_region_held3 (fun z => (z.cell? ⟨g8, 0, none⟩ = some (.slice a8 n8 c8) ∧ z.cell? ⟨w.heap.size + 1, 0, none⟩ = some (.int .i64 x.k) ∧ z.cell? ⟨w.heap.size + 1, 1, none⟩ = some (.int .i64 x.r))) (first | exact HS.out _ (Below.refl _ _) | exact HS.out _ HDW.out | exact HS.out _ HDA.out | exact HS.out _ HBa.out | exact HS.out _ (HBa.out.alloc HBa.out.size _) | exact HS.out _ HBb.out | exact HS.out _ (HBb.out.alloc HBb.out.size _) | exact HS.out _ HBd.out | exact HS.out _ (HBd.out.alloc HBd.out.size _) | exact HS2.out _ _ _ HBd.out (by first | exact Nat.le_refl _ | exact HBa.out.size | exact HBb.out.size)) (first
        | (go_at_call 31; (with_reducible refine (toItem_any x _).mono ?_); rintro e wb ⟨rfl, hb⟩; have HBb : Hid (Below W4.heap.size W4 wb) := (by first | exact HDW.out.trans hb | exact HDA.out.trans (hb.mono HDA.out.size)); (first | (have NB := hide (blk_own hb (blk_drew0 (blk_alloc W4 (.cells #[.slice none 0 0] 25))))) | skip); have HLb := hide (HLX.out wb HBb.out); clear hb)
        | (go_at_call 26; (with_reducible refine (treeDelete_any _ t x wb HLb.out hn).mono ?_); rintro e wd ⟨rv, r, b, rfl, hch, hl, hb⟩; have HBd : Hid (Below W4.heap.size W4 wd) := HBb.out.trans (hb.mono HBb.out.size); (first | (have HKL := hide (lt_block NB.out); have NB := hide (blk_own hb NB.out)) | skip); have HCH := hide hch; have HSZ := hide HBb.out.size; have HWD := hide hb.size; have HOc := hide hl; obtain ⟨ca, cn, cc, rfl⟩ := ownL_any hl; (first | (have D0 := cell_block NB.out 0; have DF := froz_block NB.out 0) | skip); clear hch hl hb)
        | (go_at_call 26; (with_reducible refine (treeDelete_any _ t x (wb.alloc (.cells #[.slice none 0 0] 25)) (HLb.out.keep (below_box wb (.cells #[.slice none 0 0] 25))) hn).mono ?_); rintro e wd ⟨rv, r, b, rfl, hch, hl, hb⟩; have HBd : Hid (Below W4.heap.size W4 wd) := (HBb.out.alloc HBb.out.size (.cells #[.slice none 0 0] 25)).trans (hb.mono (HBb.out.alloc HBb.out.size (.cells #[.slice none 0 0] 25)).size); have HKL := hide (lt_block (blk_alloc wb (.cells #[.slice none 0 0] 25))); have NB := hide (blk_own hb (blk_alloc wb (.cells #[.slice none 0 0] 25))); have HCH := hide hch; have HSZ := hide (HBb.out.alloc HBb.out.size (.cells #[.slice none 0 0] 25)).size; have HWD := hide hb.size; have HOc := hide hl; obtain ⟨ca, cn, cc, rfl⟩ := ownL_any hl; (first | (have D0 := cell_block NB.out 0; have DF := froz_block NB.out 0) | skip); clear hch hl hb))
      all_goals
        clear HS HS2
        go_wp2_with fail
        go_meet
        first
        | exact ⟨wd.heap.size, _, _, wd.heap.size, r, b, rfl, rfl, HBd.out.size, blk_alloc wd _, HCH.out, HOc.out.mk.keep (below_box wd _), .inr (Nat.le_refl _), HSZ.out, Nat.le_trans HWD.out (below_box wd _).size, (below_box wd _).size, HBd.out.alloc HBd.out.size _⟩
        | exact ⟨W4.heap.size, _, _, wd.heap.size, r, b, rfl, rfl, Nat.le_refl _, set_block NB.out 0 _, HCH.out, (HOc.out.boxT NB.out).mkAt (by simp [World.setCell]), .inl HKL.out, HSZ.out, Nat.le_trans HWD.out (by simp [World.setCell]), by simp [World.setCell], HBd.out.setCell (Nat.le_refl _) _⟩
        | exact ⟨wb.heap.size, _, _, wd.heap.size, r, b, rfl, rfl, HBb.out.size, set_block NB.out 0 _, HCH.out, (HOc.out.boxT NB.out).mkAt (by simp [World.setCell]), .inl HKL.out, HSZ.out, Nat.le_trans HWD.out (by simp [World.setCell]), by simp [World.setCell], HBd.out.setCell HBb.out.size _⟩
    case rest =>
      obtain ⟨g9, v9, lo9, hi9, r9, b9, rfl, rfl, hg9, hb9, hck, hm9, hd9, hlo9, hlw9, hhw9, hbw⟩ := hcut
      obtain ⟨rfl, rfl⟩ := ChgOf.uniq CK.out hck
      obtain ⟨W5, hW5⟩ : ∃ W, W = wc := ⟨_, rfl⟩
      rw [← hW5] at hb9 hm9 hlw9 hhw9 hbw ⊢
      clear hW5
      obtain ⟨a9, n9, c9, rfl⟩ := hm9.any
      have M9 := hide hm9
      have B9 := hide hb9
      have HD9 := hide hd9
      have HBL := hide (HBL.out.trans (hbw.mono hlo8W))
      have H := hide (H.out.trans (hbw.mono hws))
      have HT := hide (blk_own hbw HT.out)
      have HX := hide (blk_own hbw HX.out)
      have B6 := hide (blk_own hbw B6.out)
      have B8 := hide (blk_own hbw B8.out)
      have M8 := hide (M8.out.keep hbw)
      have hm5 := hbw.size
      clear hb9 hm9 hd9 hck hbw HS HS2 HDW HDA HLX
      have q6 := cell_block B6.out 0
      have q9 := cell_block B9.out 0
      have hbb : (b9 != b9) = false := by cases b9 <;> rfl
      go_wp2_with fail
      refine (eqTree_same _ _ r9 _ M9.out.arg (L6.out.keep HBL.out).arg).mono ?_
      rintro e w6 ⟨rfl, hb⟩
      have HBL := hide (HBL.out.trans (hb.mono HBL.out.size))
      have H := hide (H.out.trans (hb.mono H.out.size))
      have HT := hide (blk_own hb HT.out)
      have HX := hide (blk_own hb HX.out)
      have B6 := hide (blk_own hb B6.out)
      have B9 := hide (blk_own hb B9.out)
      have M9 := hide (M9.out.keep hb)
      have hm6 := hb.size
      have B8 := hide (blk_own hb B8.out)
      have M8 := hide (M8.out.keep hb)
      clear hb
      clear q6 q9
      have hg8l := lt_block B8.out
      have hb0 := lt_block HT.out
      have HDW : Hid (Below w6.heap.size w6 w6.drew) := (Below.refl _ _).drew
      have HTT := hide (fun z (hz : Below w6.heap.size w6 z) => HTT.out z (HBL.out.trans (hz.mono HBL.out.size)))
      have HS : Hid (∀ z, Below w6.heap.size w6 z → (z.cell? ⟨g8, 0, none⟩ = some (.slice a8 n8 c8) ∧ z.cell? ⟨w.heap.size, 0, none⟩ = some (.slice ta tn tc))) := fun z hz => ⟨(hz.cell (p := ⟨g8, 0, none⟩) hg8l).trans (cell_block B8.out 0), (hz.cell (p := ⟨w.heap.size, 0, none⟩) hb0).trans (cell_block HT.out 0)⟩
      go_wp2_with fail
      go_region_held3 (fun z => (z.cell? ⟨g8, 0, none⟩ = some (.slice a8 n8 c8) ∧ z.cell? ⟨w.heap.size, 0, none⟩ = some (.slice ta tn tc))) (first | exact HS.out _ (Below.refl _ _) | exact HS.out _ HDW.out | exact HS.out _ HBa.out | exact HS.out _ HBb.out) (first
        | (go_at_call 30; (with_reducible refine (HTT.out _ HDW.out).mono ?_); rintro e wa ⟨va, rfl, hmk, hb⟩; have HBa : Hid (Below w6.heap.size w6 wa) := HDW.out.trans hb; have HLa := hide hmk.arg; obtain ⟨aa, an, ac, rfl⟩ := hmk.any; clear hmk hb)
        | (go_at_call 32; (with_reducible refine (eqTree_same _ _ t _ (M8.out.keep HBa.out).arg HLa.out).mono ?_); rintro e w7 ⟨rfl, hb⟩; have HBb : Hid (Below w6.heap.size w6 w7) := HBa.out.trans (hb.mono HBa.out.size); clear hb))
      have hb := HBb.out
      have HBL := hide (HBL.out.trans (hb.mono HBL.out.size))
      have H := hide (H.out.trans (hb.mono H.out.size))
      have HT := hide (blk_own hb HT.out)
      have HX := hide (blk_own hb HX.out)
      have B6 := hide (blk_own hb B6.out)
      have B9 := hide (blk_own hb B9.out)
      have M9 := hide (M9.out.keep hb)
      have hm7 := hb.size
      have B8 := hide (blk_own hb B8.out)
      have M8 := hide (M8.out.keep hb)
      clear hb
      clear HS HDW HBb HBa HLa hg8l hb0
      have q8 := cell_block B8.out 0
      have hlo8b := HBL.out.size
      go_wp2_with fail
      refine (markTree_mk W2.heap.size g8 1 _ t _ M8.out (by omega) hlo8b (by omega) (by omega)).mono ?_
      rintro e w8 ⟨rfl, -, hwi⟩
      have HBL := hide (HBL.out.trans hwi.below)
      have H := hide (H.out.trans (hwi.below.mono (by omega)))
      have HT := hide ((hwi.below.block w.heap.size (by omega)).trans HT.out)
      have HX := hide ((hwi.below.block (w.heap.size + 1) (by omega)).trans HX.out)
      have B6 := hide ((hwi.below.block g6 (by omega)).trans B6.out)
      have B9 := hide ((hwi.above g9 (by omega) (lt_block B9.out)).trans B9.out)
      have M9 := hide (M9.out.wi hwi (.inl (by omega)))
      have hm8 := hwi.below.size
      obtain ⟨K1, hK1⟩ : ∃ K1, 1 + 2 * (flatT t).length = K1 := ⟨_, rfl⟩
      rw [hK1]
      have hK : ¬ (K1 : Int) < 0 := by omega
      clear hwi M8 B8 q8 hK1
      have q6 := cell_block B6.out 0
      have q9 := cell_block B9.out 0
      go_wp2_with fail
      refine (eqTree_same _ _ r9 _ M9.out.arg (L6.out.keep HBL.out).arg).mono ?_
      rintro e w9 ⟨rfl, hb⟩
      have HBL := hide (HBL.out.trans (hb.mono HBL.out.size))
      have H := hide (H.out.trans (hb.mono H.out.size))
      have HT := hide (blk_own hb HT.out)
      have HX := hide (blk_own hb HX.out)
      have B6 := hide (blk_own hb B6.out)
      have B9 := hide (blk_own hb B9.out)
      have M9 := hide (M9.out.keep hb)
      have hm9 := hb.size
      clear hb
      clear q6 q9 hK
      have q9 := cell_block B9.out 0
      go_wp2_with fail
      refine (markTree_mk lo9 hi9 1 _ r9 _ M9.out (by omega) (by omega) (by omega) (by omega)).mono ?_
      rintro e w10 ⟨rfl, hm9, hwi⟩
      have HBL := hide (HBL.out.trans (hwi.below.mono (by omega)))
      have H := hide (H.out.trans (hwi.below.mono (by omega)))
      have HT := hide ((hwi.below.block w.heap.size (by omega)).trans HT.out)
      have HX := hide ((hwi.below.block (w.heap.size + 1) (by omega)).trans HX.out)
      have B6 := hide ((hwi.below.block g6 (by omega)).trans B6.out)
      have B9 := hide ((by rcases HD9.out with h | h; exact hwi.below.block g9 h; exact hwi.above g9 h (lt_block B9.out) : w10.heap[g9]? = w9.heap[g9]?).trans B9.out)
      have M9 := hide hm9
      have hm10 := hwi.below.size
      have HS1 : Hid (∃ S, 1 + 2 * (flatT r9).length = S) := ⟨_, rfl⟩
      obtain ⟨S, hS⟩ := HS1.out
      rw [hS]
      have HSS := hide hS
      have hK : ¬ (S : Int) < 0 := by omega
      clear hwi q9 hm9 hS HS1
      have q9 := cell_block B9.out 0
      go_wp2_with fail
      refine (heldTree_mk lo9 hi9 1 _ r9 _ M9.out (by omega) (by omega) (by omega)).mono ?_
      rintro e w11 ⟨rfl, hb⟩
      rw [HSS.out]
      have HBL := hide (HBL.out.trans (hb.mono HBL.out.size))
      have H := hide (H.out.trans (hb.mono H.out.size))
      have HT := hide (blk_own hb HT.out)
      have HX := hide (blk_own hb HX.out)
      have B6 := hide (blk_own hb B6.out)
      have B9 := hide (blk_own hb B9.out)
      have M9 := hide (M9.out.keep hb)
      have hm11 := hb.size
      clear hb
      clear q9
      have hbx := lt_block HX.out
      have hb0 : w.heap.size < w11.heap.size := by omega
      have hws := H.out.size
      have HTT := hide (fun z (hz : Below w11.heap.size w11 z) => toTree_any (.slice ta tn tc) t z ((E0.out.keep H.out).keep hz) ht hn)
      have HDW : Hid (Below w11.heap.size w11 w11.drew) := (Below.refl _ _).drew
      have HDA : Hid (Below w11.heap.size w11 (w11.alloc (.cells #[.slice none 0 0] 25)).drew) := (below_box w11 _).drew
      have HS : Hid (∀ z, Below w11.heap.size w11 z → (z.cell? ⟨w.heap.size, 0, none⟩ = some (.slice ta tn tc) ∧ z.cell? ⟨w.heap.size + 1, 0, none⟩ = some (.int .i64 x.k) ∧ z.cell? ⟨w.heap.size + 1, 1, none⟩ = some (.int .i64 x.r))) := fun z hz => ⟨(hz.cell (p := ⟨w.heap.size, 0, none⟩) hb0).trans (cell_block HT.out 0), (hz.cell (p := ⟨w.heap.size + 1, 0, none⟩) hbx).trans (cell_block HX.out 0), (hz.cell (p := ⟨w.heap.size + 1, 1, none⟩) hbx).trans (cell_block HX.out 1)⟩
      have HS2 : Hid (∀ z k u, Below w11.heap.size w11 z → w11.heap.size ≤ k → ((z.setCell ⟨k, 0, none⟩ u).cell? ⟨w.heap.size, 0, none⟩ = some (.slice ta tn tc) ∧ (z.setCell ⟨k, 0, none⟩ u).cell? ⟨w.heap.size + 1, 0, none⟩ = some (.int .i64 x.k) ∧ (z.setCell ⟨k, 0, none⟩ u).cell? ⟨w.heap.size + 1, 1, none⟩ = some (.int .i64 x.r))) := by
        intro z k u hz hk
        have hk2 : ∀ q o, q < w11.heap.size → (z.setCell ⟨k, 0, none⟩ u).cell? ⟨q, o, none⟩ = z.cell? ⟨q, o, none⟩ := fun q o hq => World.cell?_of_block (a := ⟨q, o, none⟩) (Below.heap_setCell z ⟨k, 0, none⟩ u q (by show q ≠ k; omega))
        have hh := HS.out z hz
        exact ⟨(hk2 _ _ hb0).trans hh.1, (hk2 _ _ hbx).trans hh.2.1, (hk2 _ _ hbx).trans hh.2.2⟩
      go_wp2_with fail
      go_cut [14, 15] (fun s6 s7 wx => ∃ (g6 : Nat) (rv : Value) (r : List (List Itm)) (b : Bool), s6 = .pointer (some ⟨g6, 0, none⟩) ∧ s7 = .bool b ∧ w11.heap.size ≤ g6 ∧ wx.heap[g6]? = some (.cells #[rv] 25 (0, 0)) ∧ ChgOf (delOk t x) (delT t x) r b ∧ Lvs wx rv r ∧ Below w11.heap.size w11 wx)
      case first =>
        go_region_held3 (fun z => (z.cell? ⟨w.heap.size, 0, none⟩ = some (.slice ta tn tc) ∧ z.cell? ⟨w.heap.size + 1, 0, none⟩ = some (.int .i64 x.k) ∧ z.cell? ⟨w.heap.size + 1, 1, none⟩ = some (.int .i64 x.r))) (first | exact HS.out _ (Below.refl _ _) | exact HS.out _ HDW.out | exact HS.out _ HDA.out | exact HS.out _ HBa.out | exact HS.out _ (HBa.out.alloc HBa.out.size _) | exact HS.out _ HBb.out | exact HS.out _ (HBb.out.alloc HBb.out.size _) | exact HS.out _ HBd.out | exact HS.out _ (HBd.out.alloc HBd.out.size _) | exact HS2.out _ _ _ HBd.out (by first | exact Nat.le_refl _ | exact HBa.out.size | exact HBb.out.size)) (first
          | (go_at_call 30; (with_reducible refine (HTT.out _ (by first | exact HDW.out | exact HDA.out)).mono ?_); rintro e wa ⟨va, rfl, hmk, hb⟩; have HBa : Hid (Below w11.heap.size w11 wa) := (by first | exact HDW.out.trans hb | exact HDA.out.trans (hb.mono HDA.out.size)); (first | (have NB := hide (blk_own hb (blk_drew0 (blk_alloc w11 (.cells #[.slice none 0 0] 25))))) | skip); have HLa := hide hmk.lvs; obtain ⟨aa, an, ac, rfl⟩ := hmk.any; clear hmk hb)
          | (go_at_call 31; (with_reducible refine (toItem_any x _).mono ?_); rintro e wb ⟨rfl, hb⟩; have HBb : Hid (Below w11.heap.size w11 wb) := (by first | exact HBa.out.trans (hb.mono HBa.out.size) | exact (HBa.out.alloc HBa.out.size (.cells #[.slice none 0 0] 25)).trans (hb.mono (HBa.out.alloc HBa.out.size (.cells #[.slice none 0 0] 25)).size)); (first | (have NB := hide (blk_own hb NB.out)) | (have NB := hide (blk_own hb (blk_alloc wa (.cells #[.slice none 0 0] 25)))) | skip); have HLb := (by first | exact hide (HLa.out.keep hb) | exact hide ((HLa.out.keep (below_box wa (.cells #[.slice none 0 0] 25))).keep hb)); clear hb)
          | (go_at_call 26; (with_reducible refine (treeDelete_any _ t x wb HLb.out hn).mono ?_); rintro e wd ⟨rv, r, b, rfl, hch, hl, hb⟩; have HBd : Hid (Below w11.heap.size w11 wd) := HBb.out.trans (hb.mono HBb.out.size); (first | (have HKL := hide (lt_block NB.out); have NB := hide (blk_own hb NB.out)) | skip); have HCH := hide hch; have HSZ := hide HBb.out.size; have HWD := hide hb.size; have HOc := hide hl; obtain ⟨ca, cn, cc, rfl⟩ := ownL_any hl; (first | (have D0 := cell_block NB.out 0; have DF := froz_block NB.out 0) | skip); clear hch hl hb)
          | (go_at_call 26; (with_reducible refine (treeDelete_any _ t x (wb.alloc (.cells #[.slice none 0 0] 25)) (HLb.out.keep (below_box wb (.cells #[.slice none 0 0] 25))) hn).mono ?_); rintro e wd ⟨rv, r, b, rfl, hch, hl, hb⟩; have HBd : Hid (Below w11.heap.size w11 wd) := (HBb.out.alloc HBb.out.size (.cells #[.slice none 0 0] 25)).trans (hb.mono (HBb.out.alloc HBb.out.size (.cells #[.slice none 0 0] 25)).size); have HKL := hide (lt_block (blk_alloc wb (.cells #[.slice none 0 0] 25))); have NB := hide (blk_own hb (blk_alloc wb (.cells #[.slice none 0 0] 25))); have HCH := hide hch; have HSZ := hide (HBb.out.alloc HBb.out.size (.cells #[.slice none 0 0] 25)).size; have HWD := hide hb.size; have HOc := hide hl; obtain ⟨ca, cn, cc, rfl⟩ := ownL_any hl; (first | (have D0 := cell_block NB.out 0; have DF := froz_block NB.out 0) | skip); clear hch hl hb))
        all_goals
          clear HS HS2
          go_wp2_with fail
          go_meet
          first
          | exact ⟨wd.heap.size, _, r, b, rfl, rfl, HBd.out.size, blk_alloc wd _, HCH.out, HOc.out.lvs.keep (below_box wd _), HBd.out.alloc HBd.out.size _⟩
          | exact ⟨w11.heap.size, _, r, b, rfl, rfl, Nat.le_refl _, set_block NB.out 0 _, HCH.out, (HOc.out.boxT NB.out).lvs, HBd.out.setCell (Nat.le_refl _) _⟩
          | exact ⟨wa.heap.size, _, r, b, rfl, rfl, HBa.out.size, set_block NB.out 0 _, HCH.out, (HOc.out.boxT NB.out).lvs, HBd.out.setCell HBa.out.size _⟩
          | exact ⟨wb.heap.size, _, r, b, rfl, rfl, HBb.out.size, set_block NB.out 0 _, HCH.out, (HOc.out.boxT NB.out).lvs, HBd.out.setCell HBb.out.size _⟩
      case rest =>
        obtain ⟨g14, v14, r14, b14, rfl, rfl, hg14, hb14, hck, hl14, hb⟩ := hcut
        obtain ⟨rfl, rfl⟩ := ChgOf.uniq CK.out hck
        obtain ⟨w12, hw12⟩ : ∃ W, W = wc := ⟨_, rfl⟩
        rw [← hw12] at hb14 hl14 hb ⊢
        clear hw12
        have B14 := hide hb14
        have L14 := hide hl14
        have hm12 := hb.size
        have HBL := hide (HBL.out.trans (hb.mono HBL.out.size))
        have H := hide (H.out.trans (hb.mono H.out.size))
        have B6 := hide (blk_own hb B6.out)
        have B9 := hide (blk_own hb B9.out)
        have M9 := hide (M9.out.keep hb)
        obtain ⟨a14, n14, c14, rfl⟩ := hl14.any
        clear hck hb14 hl14 hb HS HS2 HDW HDA HTT HT HX
        have q6 := cell_block B6.out 0
        have q14 := cell_block B14.out 0
        go_wp2_with fail
        refine (eqTree_same _ _ r14 _ L14.out.arg (L6.out.keep HBL.out).arg).mono ?_
        rintro e w13 ⟨rfl, hb⟩
        have hm13 := hb.size
        have HBL := hide (HBL.out.trans (hb.mono HBL.out.size))
        have H := hide (H.out.trans (hb.mono H.out.size))
        have B6 := hide (blk_own hb B6.out)
        have B9 := hide (blk_own hb B9.out)
        have M9 := hide (M9.out.keep hb)
        clear q6 q14 hb
        have q9 := cell_block B9.out 0
        go_wp2_with fail
        refine (heldTree_mk lo9 hi9 1 _ r14 _ M9.out (by omega) (by omega) (by omega)).mono ?_
        rintro e w14 ⟨rfl, hb⟩
        rw [HSS.out]
        have H := hide (H.out.trans (hb.mono H.out.size))
        clear q9 hb
        go_wp2_with fail
        go_ret
        exact ⟨rfl, H.out⟩
end Go.Proofs.Ytmlphdniiiijpaa
