/-
  setRow of the specification.
-/
import Derived.Test.YtppbmhlmbepneaaCloneI
set_option linter.all false
namespace Go.Proofs.Ytppbmhlmbepneaa
open Go.RowKit
theorem setRowL_len (l : List Itm) (m : RMove) : (setRowL l m).length ≤ l.length + 1 := by
  unfold setRowL
  have : ∀ l : List Itm, (l.filter (ltR m.row)).length + (l.filter (gtR m.row)).length ≤ l.length := by
    intro l
    induction l with
    | nil => simp
    | cons y l ih =>
      by_cases h1 : y.r < m.row
      · have h2 : ¬ m.row < y.r := by omega
        simp [List.filter_cons, ltR, gtR, h1, h2] at ih ⊢; omega
      · by_cases h2 : m.row < y.r <;> simp [List.filter_cons, ltR, gtR, h1, h2] at ih ⊢ <;> omega
  have := this l
  rw [List.length_append, List.length_append]
  split <;> simp <;> omega
set_option maxHeartbeats 16000000 in
theorem setRow_any (v : Value) (l : List Itm) (m : RMove) (w : World) (h : Itms w v l) (hn : l.length ≤ 1000) :
    Calls Try.prog 51 #[v, .agg #[.bool m.scan, .bool m.gone, .int .i64 m.row, .int .i64 m.key]] w (ItRet w (setRowL l m)) := by
  obtain ⟨a, cap, rfl, hl, hcap, hd⟩ := h
  obtain ⟨i0, hi, hz0, hz1, hz2⟩ := info_parts infoI
  obtain ⟨R, hR⟩ : ∃ R, R = setRowL l m := ⟨_, rfl⟩
  rw [← hR]
  have HRR := hide (hR.trans (show setRowL l m = l.filter (ltR m.row) ++ (if m.gone then [] else [mvItm m]) ++ l.filter (gtR m.row) from rfl))
  clear hR
  go_enter Try.func51, Try.ntmps51
  go_wp2_with fail
  go_loopg [5, 6] l.length (fun gk sa sb wr => Below w.heap.size w wr ∧ wr.heap[w.heap.size]? = some (.cells #[.bool m.scan, .bool m.gone, .int .i64 m.row, .int .i64 m.key] 42 (0, 0)) ∧ ∃ k : Nat, k + gk = l.length ∧ sb = .int .i64 (k : Int) ∧ OwnI (w.heap.size + 1) wr sa (((l.take k).filter (ltR m.row))))
  case atStart => exact ⟨below_box2 _ _ _, blk_keep (blk_alloc w _) _, 0, by omega, rfl, own_lit_at (by simp) (by simp)⟩
  case round =>
    obtain ⟨hbw, hbx, k, hk, rfl, hown⟩ := hrel
    have HW := hide hbw
    have HX := hide hbx
    have HO := hide hown
    have hbs : w.heap.size < wr.heap.size := lt_block hbx
    clear hown hbx
    by_cases hlt : k < l.length
    · obtain ⟨b, off, rfl, hbb, hcell⟩ := hd.resolve_left (by rintro rfl; simp at hlt)
      have E := hide ((hcell k hlt).keep hbw)
      have hbl := Nat.lt_of_lt_of_le hbb hbw.size
      have HT := hide (take_filterI hlt (ltR m.row))
      have hfl : ((l.take k).filter (ltR m.row)).length ≤ k := Nat.le_trans (List.length_filter_le _ _) (by rw [List.length_take]; omega)
      clear hcell hd hbw
      generalize l[k] = y at *
      obtain ⟨L0, hL0⟩ : ∃ L0, ((l.take k).filter (ltR m.row)) = L0 := ⟨_, rfl⟩
      obtain ⟨L1, hL1⟩ : ∃ L1, ((l.take (k + 1)).filter (ltR m.row)) = L1 := ⟨_, rfl⟩
      have hl0 : L0.length ≤ k := by rw [← hL0]; omega
      have HF0 : Hid ((ltR m.row) y = false → L1 = L0) := fun hp => by rw [← hL0, ← hL1, HT.out, hp]; simp
      have HF1 : Hid ((ltR m.row) y = true → L1 = L0 ++ [y]) := fun hp => by rw [← hL0, ← hL1, HT.out, hp]; simp
      rw [hL0] at HO
      have HL1 := hide hL1
      clear hL0 hL1 HT hfl
      have g0 := fun z : BW wr => bw_cell (p := ⟨b, off + k * 2, none⟩) hbl E.out.1 z
      have g1 := fun z : BW wr => bw_cell (p := ⟨b, off + k * 2 + 1, none⟩) hbl E.out.2 z
      have g2 := fun z : BW wr => bw_cell (p := ⟨w.heap.size, 2, none⟩) hbs (cell_block HX.out 2) z
      by_cases hq : y.r < m.row
      · have dq : decide (y.r < m.row) = true := decide_eq_true hq
        have HF := hide (HF1.out (by unfold ltR; exact dq))
        clear hq HF0 HF1
        go_wp2_with fail
        refine wp_region_bw (by kernel_rfl) (by kernel_rfl) ?_
        repeat (go_big_quiet_step (fail))
        refine wpQuiet_nil ?_
        rintro _ ⟨z, rfl⟩
        have H1 : Hid (Below w.heap.size w z.v) := HW.out.trans (z.h.mono HW.out.size)
        have HX1 := hide (bw_blk HX.out z)
        have HO1 := hide (HO.out.keep z.h)
        have e0 := g0 z
        have e1 := g1 z
        have hzs : wr.heap.size ≤ z.v.heap.size := z.h.size
        clear g0 g1 g2
        go_wp2_with (at_builtin; refine wpList_append_lies _ rfl (.tmp 23) (.tmp 28) 23 rfl (w.heap.size + 1) 29 i0 _ 2 16 Try.underlying23 hi hz0 hz1 hz2 rfl (by decide) _ _ _ rfl (World.ownsRow.alloc HO1.out _) ⟨_, 0, none⟩ 1 1 [.int .i64 y.k, .int .i64 y.r] rfl rfl ?c1 ?h1 (by decide) ?h63 ?hb ?hbase _ rfl ?next)
        case c1 => exact World.news_of_block (cs := #[.int .i64 y.k, .int .i64 y.r]) (blk_at rfl _)
        case h1 => intro u hu; simp at hu; rcases hu with rfl | rfl <;> rfl
        case h63 => unfold maxLen; omega
        case hb => omega
        case hbase => simp; omega
        case next =>
          intro g cp w3 hown hgrow hat hlt3
          have HN : Hid (OwnI (w.heap.size + 1) w3 (.slice (some ⟨g, 0, none⟩) (L0.length + 1) cp) L1) := by
            rw [HF.out]
            unfold Hid OwnI
            rw [itmCells_app, List.length_append]
            exact hown
          have H3 : Hid (Below w.heap.size w w3) := (H1.out.alloc H1.out.size _).grown hgrow (by simp; omega) (fun q hq => by have := (World.ownsRow.lt HO1.out q hq).1; omega)
          have HX3 : Hid (w3.heap[w.heap.size]? = some (.cells #[.bool m.scan, .bool m.gone, .int .i64 m.row, .int .i64 m.key] 42 (0, 0))) := (hgrow.block w.heap.size (by simp; omega) (fun hq => by have := (World.ownsRow.lt HO1.out _ hq.symm).1; omega)).trans (blk_keep HX1.out _)
          clear hown hgrow hat
          go_wp2_with fail
          go_roundg (gk - 1)
          case measure => omega
          case rel => exact ⟨H3.out, HX3.out, k + 1, by omega, by go_num, by rw [HL1.out]; exact HN.out⟩
      · have dq : decide (y.r < m.row) = false := decide_eq_false hq
        have HF := hide (HF0.out (by unfold ltR; exact dq))
        clear hq HF0 HF1
        go_wp2_with fail
        refine wp_region_bw (by kernel_rfl) (by kernel_rfl) ?_
        repeat (go_big_quiet_step (fail))
        refine wpQuiet_nil ?_
        rintro _ ⟨z, rfl⟩
        have H1 : Hid (Below w.heap.size w z.v) := HW.out.trans (z.h.mono HW.out.size)
        have HX1 := hide (bw_blk HX.out z)
        have HO1 := hide (HO.out.keep z.h)
        clear g0 g1 g2
        go_wp2_with fail
        go_roundg (gk - 1)
        case measure => omega
        case rel => exact ⟨H1.out, HX1.out, k + 1, by omega, by go_num, by rw [HL1.out, HF.out]; exact HO1.out⟩
    · have hkl : k = l.length := by omega
      subst hkl
      rw [List.take_length] at HO
      have HWW := hide hbw
      have hbws := hbw.size
      clear hbw
      have hfl : (l.filter (ltR m.row)).length ≤ l.length := List.length_filter_le _ _
      obtain ⟨A0, hA0⟩ : ∃ A0, l.filter (ltR m.row) = A0 := ⟨_, rfl⟩
      rw [hA0] at HO HRR hfl
      clear hA0
      have c1 := cell_block HX.out 1
      have c2 := cell_block HX.out 2
      have c3 := cell_block HX.out 3
      obtain ⟨gn, hgn⟩ : ∃ gn, m.gone = gn := ⟨_, rfl⟩
      have HGN := hide hgn
      rw [hgn] at c1
      clear hgn
      cases gn with
      | true =>
        obtain ⟨PR, hPR⟩ : ∃ PR, PR = A0 := ⟨_, rfl⟩
        have HPR : Hid (A0 ++ (if m.gone then [] else [mvItm m]) = PR) := by unfold Hid; rw [HGN.out, hPR]; simp
        have hpl : PR.length ≤ l.length := by rw [hPR]; exact hfl
        rw [← hPR] at HO
        clear hPR
        go_wp2_with fail
        clear c1 c2 c3
        go_loopg [5, 7] l.length (fun gk sa sb wr => Below w.heap.size w wr ∧ wr.heap[w.heap.size]? = some (.cells #[.bool m.scan, .bool m.gone, .int .i64 m.row, .int .i64 m.key] 42 (0, 0)) ∧ ∃ k : Nat, k + gk = l.length ∧ sb = .int .i64 (k : Int) ∧ OwnI (w.heap.size + 1) wr sa (PR ++ ((l.take k).filter (gtR m.row))))
        case atStart => exact ⟨HWW.out, HX.out, 0, by omega, rfl, by simpa using HO.out⟩
        case round =>
          obtain ⟨hbw, hbx, k, hk, rfl, hown⟩ := hrel
          have HW := hide hbw
          have HX := hide hbx
          have HO := hide hown
          have hbs : w.heap.size < wr.heap.size := lt_block hbx
          clear hown hbx
          by_cases hlt : k < l.length
          · obtain ⟨b, off, rfl, hbb, hcell⟩ := hd.resolve_left (by rintro rfl; simp at hlt)
            have E := hide ((hcell k hlt).keep hbw)
            have hbl := Nat.lt_of_lt_of_le hbb hbw.size
            have HT := hide (take_filterI hlt (gtR m.row))
            have hfl : ((l.take k).filter (gtR m.row)).length ≤ k := Nat.le_trans (List.length_filter_le _ _) (by rw [List.length_take]; omega)
            clear hcell hd hbw
            generalize l[k] = y at *
            obtain ⟨L0, hL0⟩ : ∃ L0, PR ++ ((l.take k).filter (gtR m.row)) = L0 := ⟨_, rfl⟩
            obtain ⟨L1, hL1⟩ : ∃ L1, PR ++ ((l.take (k + 1)).filter (gtR m.row)) = L1 := ⟨_, rfl⟩
            have hl0 : L0.length ≤ PR.length + k := by rw [← hL0]; rw [List.length_append]; omega
            have HF0 : Hid ((gtR m.row) y = false → L1 = L0) := fun hp => by rw [← hL0, ← hL1, HT.out, hp]; simp
            have HF1 : Hid ((gtR m.row) y = true → L1 = L0 ++ [y]) := fun hp => by rw [← hL0, ← hL1, HT.out, hp]; simp
            rw [hL0] at HO
            have HL1 := hide hL1
            clear hL0 hL1 HT hfl
            have g0 := fun z : BW wr => bw_cell (p := ⟨b, off + k * 2, none⟩) hbl E.out.1 z
            have g1 := fun z : BW wr => bw_cell (p := ⟨b, off + k * 2 + 1, none⟩) hbl E.out.2 z
            have g2 := fun z : BW wr => bw_cell (p := ⟨w.heap.size, 2, none⟩) hbs (cell_block HX.out 2) z
            by_cases hq : m.row < y.r
            · have dq : decide (m.row < y.r) = true := decide_eq_true hq
              have HF := hide (HF1.out (by unfold gtR; exact dq))
              clear hq HF0 HF1
              go_wp2_with fail
              refine wp_region_bw (by kernel_rfl) (by kernel_rfl) ?_
              repeat (go_big_quiet_step (fail))
              refine wpQuiet_nil ?_
              rintro _ ⟨z, rfl⟩
              have H1 : Hid (Below w.heap.size w z.v) := HW.out.trans (z.h.mono HW.out.size)
              have HX1 := hide (bw_blk HX.out z)
              have HO1 := hide (HO.out.keep z.h)
              have e0 := g0 z
              have e1 := g1 z
              have hzs : wr.heap.size ≤ z.v.heap.size := z.h.size
              clear g0 g1 g2
              go_wp2_with (at_builtin; refine wpList_append_lies _ rfl (.tmp 55) (.tmp 60) 23 rfl (w.heap.size + 1) 29 i0 _ 2 16 Try.underlying23 hi hz0 hz1 hz2 rfl (by decide) _ _ _ rfl (World.ownsRow.alloc HO1.out _) ⟨_, 0, none⟩ 1 1 [.int .i64 y.k, .int .i64 y.r] rfl rfl ?c1 ?h1 (by decide) ?h63 ?hb ?hbase _ rfl ?next)
              case c1 => exact World.news_of_block (cs := #[.int .i64 y.k, .int .i64 y.r]) (blk_at rfl _)
              case h1 => intro u hu; simp at hu; rcases hu with rfl | rfl <;> rfl
              case h63 => unfold maxLen; omega
              case hb => omega
              case hbase => simp; omega
              case next =>
                intro g cp w3 hown hgrow hat hlt3
                have HN : Hid (OwnI (w.heap.size + 1) w3 (.slice (some ⟨g, 0, none⟩) (L0.length + 1) cp) L1) := by
                  rw [HF.out]
                  unfold Hid OwnI
                  rw [itmCells_app, List.length_append]
                  exact hown
                have H3 : Hid (Below w.heap.size w w3) := (H1.out.alloc H1.out.size _).grown hgrow (by simp; omega) (fun q hq => by have := (World.ownsRow.lt HO1.out q hq).1; omega)
                have HX3 : Hid (w3.heap[w.heap.size]? = some (.cells #[.bool m.scan, .bool m.gone, .int .i64 m.row, .int .i64 m.key] 42 (0, 0))) := (hgrow.block w.heap.size (by simp; omega) (fun hq => by have := (World.ownsRow.lt HO1.out _ hq.symm).1; omega)).trans (blk_keep HX1.out _)
                clear hown hgrow hat
                go_wp2_with fail
                go_roundg (gk - 1)
                case measure => omega
                case rel => exact ⟨H3.out, HX3.out, k + 1, by omega, by go_num, by rw [HL1.out]; exact HN.out⟩
            · have dq : decide (m.row < y.r) = false := decide_eq_false hq
              have HF := hide (HF0.out (by unfold gtR; exact dq))
              clear hq HF0 HF1
              go_wp2_with fail
              refine wp_region_bw (by kernel_rfl) (by kernel_rfl) ?_
              repeat (go_big_quiet_step (fail))
              refine wpQuiet_nil ?_
              rintro _ ⟨z, rfl⟩
              have H1 : Hid (Below w.heap.size w z.v) := HW.out.trans (z.h.mono HW.out.size)
              have HX1 := hide (bw_blk HX.out z)
              have HO1 := hide (HO.out.keep z.h)
              clear g0 g1 g2
              go_wp2_with fail
              go_roundg (gk - 1)
              case measure => omega
              case rel => exact ⟨H1.out, HX1.out, k + 1, by omega, by go_num, by rw [HL1.out, HF.out]; exact HO1.out⟩
          · have hkl : k = l.length := by omega
            subst hkl
            rw [List.take_length] at HO
            have HWW := hide hbw
            have hbws := hbw.size
            clear hbw
            go_wp2_with fail
            go_ret
            exact ⟨_, rfl, by rw [HRR.out, HPR.out]; exact own_mono HO.out (by omega), HWW.out⟩
      | false =>
        go_wp2_with (at_builtin; refine wpList_append_lies _ rfl (.tmp 33) (.tmp 39) 23 rfl (w.heap.size + 1) 29 i0 _ 2 16 Try.underlying23 hi hz0 hz1 hz2 rfl (by decide) _ _ _ rfl (World.ownsRow.alloc HO.out _) ⟨_, 0, none⟩ 1 1 [.int .i64 m.key, .int .i64 m.row] rfl rfl ?c1 ?h1 (by decide) ?h63 ?hb ?hbase _ rfl ?next)
        case c1 => exact World.news_of_block (cs := #[.int .i64 m.key, .int .i64 m.row]) (blk_at rfl _)
        case h1 => intro u hu; simp at hu; rcases hu with rfl | rfl <;> rfl
        case h63 => unfold maxLen; omega
        case hb => omega
        case hbase => simp; omega
        case next =>
          intro g cp w3 hown hgrow hat hlt3
          obtain ⟨PR, hPR⟩ : ∃ PR, PR = A0 ++ [mvItm m] := ⟨_, rfl⟩
          have HPR : Hid (A0 ++ (if m.gone then [] else [mvItm m]) = PR) := by unfold Hid; rw [HGN.out, hPR]; simp
          have hprl : PR.length = A0.length + 1 := by rw [hPR]; simp
          have HN : Hid (OwnI (w.heap.size + 1) w3 (.slice (some ⟨g, 0, none⟩) (A0.length + 1) cp) PR) := by
            rw [hPR]
            unfold Hid OwnI
            rw [itmCells_app, List.length_append]
            exact hown
          have H3 : Hid (Below w.heap.size w w3) := (HWW.out.alloc HWW.out.size _).grown hgrow (by simp; omega) (fun q hq => by have := (World.ownsRow.lt HO.out q hq).1; omega)
          have HX3 : Hid (w3.heap[w.heap.size]? = some (.cells #[.bool m.scan, .bool m.gone, .int .i64 m.row, .int .i64 m.key] 42 (0, 0))) := (hgrow.block w.heap.size (by simp; omega) (fun hq => by have := (World.ownsRow.lt HO.out _ hq.symm).1; omega)).trans (blk_keep HX.out _)
          clear hown hgrow hat hPR c1 c2 c3 HO HX HWW
          go_wp2_with fail
          go_loopg [5, 7] l.length (fun gk sa sb wr => Below w.heap.size w wr ∧ wr.heap[w.heap.size]? = some (.cells #[.bool m.scan, .bool m.gone, .int .i64 m.row, .int .i64 m.key] 42 (0, 0)) ∧ ∃ k : Nat, k + gk = l.length ∧ sb = .int .i64 (k : Int) ∧ OwnI (w.heap.size + 1) wr sa (PR ++ ((l.take k).filter (gtR m.row))))
          case atStart => exact ⟨H3.out, HX3.out, 0, by omega, rfl, by simpa using HN.out⟩
          case round =>
            obtain ⟨hbw, hbx, k, hk, rfl, hown⟩ := hrel
            have HW := hide hbw
            have HX := hide hbx
            have HO := hide hown
            have hbs : w.heap.size < wr.heap.size := lt_block hbx
            clear hown hbx
            by_cases hlt : k < l.length
            · obtain ⟨b, off, rfl, hbb, hcell⟩ := hd.resolve_left (by rintro rfl; simp at hlt)
              have E := hide ((hcell k hlt).keep hbw)
              have hbl := Nat.lt_of_lt_of_le hbb hbw.size
              have HT := hide (take_filterI hlt (gtR m.row))
              have hfl : ((l.take k).filter (gtR m.row)).length ≤ k := Nat.le_trans (List.length_filter_le _ _) (by rw [List.length_take]; omega)
              clear hcell hd hbw
              generalize l[k] = y at *
              obtain ⟨L0, hL0⟩ : ∃ L0, PR ++ ((l.take k).filter (gtR m.row)) = L0 := ⟨_, rfl⟩
              obtain ⟨L1, hL1⟩ : ∃ L1, PR ++ ((l.take (k + 1)).filter (gtR m.row)) = L1 := ⟨_, rfl⟩
              have hl0 : L0.length ≤ PR.length + k := by rw [← hL0]; rw [List.length_append]; omega
              have HF0 : Hid ((gtR m.row) y = false → L1 = L0) := fun hp => by rw [← hL0, ← hL1, HT.out, hp]; simp
              have HF1 : Hid ((gtR m.row) y = true → L1 = L0 ++ [y]) := fun hp => by rw [← hL0, ← hL1, HT.out, hp]; simp
              rw [hL0] at HO
              have HL1 := hide hL1
              clear hL0 hL1 HT hfl
              have g0 := fun z : BW wr => bw_cell (p := ⟨b, off + k * 2, none⟩) hbl E.out.1 z
              have g1 := fun z : BW wr => bw_cell (p := ⟨b, off + k * 2 + 1, none⟩) hbl E.out.2 z
              have g2 := fun z : BW wr => bw_cell (p := ⟨w.heap.size, 2, none⟩) hbs (cell_block HX.out 2) z
              by_cases hq : m.row < y.r
              · have dq : decide (m.row < y.r) = true := decide_eq_true hq
                have HF := hide (HF1.out (by unfold gtR; exact dq))
                clear hq HF0 HF1
                go_wp2_with fail
                refine wp_region_bw (by kernel_rfl) (by kernel_rfl) ?_
                repeat (go_big_quiet_step (fail))
                refine wpQuiet_nil ?_
                rintro _ ⟨z, rfl⟩
                have H1 : Hid (Below w.heap.size w z.v) := HW.out.trans (z.h.mono HW.out.size)
                have HX1 := hide (bw_blk HX.out z)
                have HO1 := hide (HO.out.keep z.h)
                have e0 := g0 z
                have e1 := g1 z
                have hzs : wr.heap.size ≤ z.v.heap.size := z.h.size
                clear g0 g1 g2
                go_wp2_with (at_builtin; refine wpList_append_lies _ rfl (.tmp 55) (.tmp 60) 23 rfl (w.heap.size + 1) 29 i0 _ 2 16 Try.underlying23 hi hz0 hz1 hz2 rfl (by decide) _ _ _ rfl (World.ownsRow.alloc HO1.out _) ⟨_, 0, none⟩ 1 1 [.int .i64 y.k, .int .i64 y.r] rfl rfl ?c1 ?h1 (by decide) ?h63 ?hb ?hbase _ rfl ?next)
                case c1 => exact World.news_of_block (cs := #[.int .i64 y.k, .int .i64 y.r]) (blk_at rfl _)
                case h1 => intro u hu; simp at hu; rcases hu with rfl | rfl <;> rfl
                case h63 => unfold maxLen; omega
                case hb => omega
                case hbase => simp; omega
                case next =>
                  intro g cp w3 hown hgrow hat hlt3
                  have HN : Hid (OwnI (w.heap.size + 1) w3 (.slice (some ⟨g, 0, none⟩) (L0.length + 1) cp) L1) := by
                    rw [HF.out]
                    unfold Hid OwnI
                    rw [itmCells_app, List.length_append]
                    exact hown
                  have H3 : Hid (Below w.heap.size w w3) := (H1.out.alloc H1.out.size _).grown hgrow (by simp; omega) (fun q hq => by have := (World.ownsRow.lt HO1.out q hq).1; omega)
                  have HX3 : Hid (w3.heap[w.heap.size]? = some (.cells #[.bool m.scan, .bool m.gone, .int .i64 m.row, .int .i64 m.key] 42 (0, 0))) := (hgrow.block w.heap.size (by simp; omega) (fun hq => by have := (World.ownsRow.lt HO1.out _ hq.symm).1; omega)).trans (blk_keep HX1.out _)
                  clear hown hgrow hat
                  go_wp2_with fail
                  go_roundg (gk - 1)
                  case measure => omega
                  case rel => exact ⟨H3.out, HX3.out, k + 1, by omega, by go_num, by rw [HL1.out]; exact HN.out⟩
              · have dq : decide (m.row < y.r) = false := decide_eq_false hq
                have HF := hide (HF0.out (by unfold gtR; exact dq))
                clear hq HF0 HF1
                go_wp2_with fail
                refine wp_region_bw (by kernel_rfl) (by kernel_rfl) ?_
                repeat (go_big_quiet_step (fail))
                refine wpQuiet_nil ?_
                rintro _ ⟨z, rfl⟩
                have H1 : Hid (Below w.heap.size w z.v) := HW.out.trans (z.h.mono HW.out.size)
                have HX1 := hide (bw_blk HX.out z)
                have HO1 := hide (HO.out.keep z.h)
                clear g0 g1 g2
                go_wp2_with fail
                go_roundg (gk - 1)
                case measure => omega
                case rel => exact ⟨H1.out, HX1.out, k + 1, by omega, by go_num, by rw [HL1.out, HF.out]; exact HO1.out⟩
            · have hkl : k = l.length := by omega
              subst hkl
              rw [List.take_length] at HO
              have HWW := hide hbw
              have hbws := hbw.size
              clear hbw
              go_wp2_with fail
              go_ret
              exact ⟨_, rfl, by rw [HRR.out, HPR.out]; exact own_mono HO.out (by omega), HWW.out⟩
end Go.Proofs.Ytppbmhlmbepneaa
