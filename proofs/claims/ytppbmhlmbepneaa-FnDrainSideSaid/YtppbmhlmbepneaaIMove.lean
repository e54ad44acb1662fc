/-
  move of the program's build.
-/
import Derived.Test.YtppbmhlmbepneaaIScan
import Derived.Test.YtppbmhlmbepneaaWork
import Derived.Deep.RegionLaw
import Derived.Deep.RegionWith
import Derived.Deep.DeepCutAuto
import Derived.RegionCalls
set_option linter.all false
namespace Go.Proofs.Ytppbmhlmbepneaa
open Go.RowKit
theorem mvCells_snoc {B gg n cap : Nat} {w : World} {sd sd1 : List RMove} (e : RMove) (h1 : sd1 = sd ++ [e]) (hl : sd1.length = n)
    (h : w.ownsRow B 42 4 (.slice (some ⟨gg, 0, none⟩) n cap) n (mvCells sd ++ [.bool e.scan, .bool e.gone, .int .i64 e.row, .int .i64 e.key])) : OwnM B w (.slice (some ⟨gg, 0, none⟩) n cap) sd1 := by
  unfold OwnM
  rw [hl, h1, mvCells_app]
  exact h
/-- what a move comes to, by the place that the search finds -/
theorem changeB_parts {b : BS} (h : AscR b.rows) (gn : Bool) (row key : Int) : changeB b ⟨false, gn, row, key⟩ =
    ⟨(if gn then (if hasR b.rows row then delK b.rows (posR b.rows row) else b.rows) else insK (if hasR b.rows row then delK b.rows (posR b.rows row) else b.rows) (posR b.rows row) ⟨key, row⟩), b.pos, b.items,
      if row ≤ b.pos then b.side ++ (match (if hasR b.rows row then b.rows[posR b.rows row]? else none) with | some e => [⟨false, true, row, e.k⟩] | none => []) ++ (if gn then [] else [⟨false, gn, row, key⟩]) else b.side⟩ := by
  have hk := posR_le b.rows row
  have h1 := setRowL_parts h ⟨false, gn, row, key⟩
  have h2 := find_at h row
  simp only at h1
  unfold changeB sideM oldM newM
  simp only
  rw [h1, h2]
  congr 1
  have ht : (b.rows.take (posR b.rows row)).length = posR b.rows row := by rw [List.length_take]; omega
  cases hasR b.rows row <;> cases gn <;> simp [delK, insK, mvItm, List.take_append, List.drop_append, ht]
set_option maxHeartbeats 16000000 in
set_option maxRecDepth 100000 in
theorem imove_scan (B g : Nat) (b : BS) (m : RMove) (w : World) (h : BoxI B g w b) (hv : InvB b) (hs : m.scan = true) (hl : b.rows.length ≤ 1000) (hil : b.items.length ≤ 1000) :
    Calls Try.prog 64 #[.pointer (some ⟨g, 0, none⟩), .agg #[.bool m.scan, .bool m.gone, .int .i64 m.row, .int .i64 m.key]] w (StepRet B g w (.bool true) (scanB b)) := by
  obtain ⟨sc, gn, row, key⟩ := m
  simp only at hs
  subst hs
  have hBg := h.1
  have hgw := h.lt
  have HK := hide (below_box w (.cells #[.bool true, .bool gn, .int .i64 row, .int .i64 key] 42))
  have HS := hide (iscan_any B g b _ (h.keep HK.out) hv hl hil)
  clear h hv
  go_enter Try.func64, Try.ntmps64
  go_wp2_with fail
  refine HS.out.mono ?_
  rintro e w1 ⟨rfl, hbx, hb⟩
  have HX := hide hbx
  have HB : Hid (Below B w w1) := (HK.out.mono (by omega)).trans hb
  clear hbx hb HS
  go_wp2_with fail
  go_ret
  exact ⟨rfl, HX.out, HB.out⟩
set_option maxHeartbeats 64000000 in
set_option maxRecDepth 100000 in
theorem imove_change (B g : Nat) (b : BS) (gn : Bool) (row key : Int) (w : World) (h : BoxI B g w b) (hv : InvB b) (hm0 : 0 ≤ row) (hm1 : row ≤ 99) (hrl : b.rows.length ≤ 30) (hsl : b.side.length ≤ 1000) :
    Calls Try.prog 64 #[.pointer (some ⟨g, 0, none⟩), .agg #[.bool false, .bool gn, .int .i64 row, .int .i64 key]] w (StepRet B g w (.bool (decide ((changeB b ⟨false, gn, row, key⟩).rows.length ≤ 30))) (changeB b ⟨false, gn, row, key⟩)) := by
  obtain ⟨i0, hi, hz0, hz1, hz2⟩ := info_parts infoMove
  obtain ⟨hBg, vr, vi, vs, h1, h2⟩ := h
  have hgw := lt_block h1
  have ST : Hid (MvSt B g w.heap.size w (w.alloc (.cells #[.bool false, .bool gn, .int .i64 row, .int .i64 key] 42)) vr vi vs b.rows b.pos b.items b.side ⟨false, gn, row, key⟩) := MvSt.start ⟨false, gn, row, key⟩ hBg h1 h2
  have HF := hide (fun z (hz : BoxI B g z b) => find_any B g b row z hz hv (by omega) (by omega) (by omega))
  have HC := hide (changeB_parts hv.asc gn row key)
  have HLT : Hid (hasR b.rows row = true → posR b.rows row < b.rows.length) := fun hq => by
    obtain ⟨q1, q2⟩ := posR_parts hv.asc row
    exact ((hasR_of hv.asc row (posR_le _ _) q1 q2).1 hq).1
  have hpl := posR_le b.rows row
  clear h1 h2 hv
  obtain ⟨RB, hRB⟩ : ∃ RB, RB = changeB b ⟨false, gn, row, key⟩ := ⟨_, rfl⟩
  rw [← hRB] at HC ⊢
  clear hRB
  go_enter Try.func64, Try.ntmps64
  go_wp2_with fail
  refine (HF.out _ ⟨ST.out.hB, _, _, _, ST.out.hb, ST.out.R⟩).mono ?_
  rintro e w1 ⟨rfl, hb⟩
  have ST := hide (ST.out.keep hb)
  clear hb HF
  generalize posR b.rows row = k at *
  generalize hasR b.rows row = fd at *
  generalize b.rows = rs at *
  generalize b.pos = ps at *
  generalize b.items = its at *
  generalize b.side = sd at *
  obtain ⟨sa, sc, rfl, hsc, hsm⟩ := own_slc ST.out.R.s
  obtain ⟨ra, rc, rfl, hrc, hrm⟩ := own_slc ST.out.R.r
  by_cases hq : row ≤ ps
  · have dq : decide (row ≤ ps) = true := decide_eq_true hq
    have HQ := hide hq
    clear hq
    have hgl := ST.out.gl
    have hml := ST.out.ml
    have hBW := ST.out.hBW
    obtain ⟨⟨c0, c1, c2, c3⟩, f0, f1, f2, f3⟩ := cells4 ST.out.hb
    obtain ⟨⟨m0, m1, m2, m3⟩, -⟩ := cells4 ST.out.hm
    simp only at m0 m1 m2 m3
    have q1 := fun z : BW w1 => bw_cell (p := ⟨g, 1, none⟩) hgl c1 z
    have q2 := fun z : BW w1 => bw_cell (p := ⟨w.heap.size, 2, none⟩) hml m2 z
    go_wp2_with fail
    refine wp_region_bw (by kernel_rfl) (by kernel_rfl) ?_
    repeat (go_big_quiet_step (fail))
    refine wpQuiet_nil ?_
    rintro _ ⟨z, rfl⟩
    have ST := hide (ST.out.keep z.h)
    clear q1 q2
    generalize z.v = W at *
    clear hgl hml hBW c0 c1 c2 c3 f0 f1 f2 f3 m0 m1 m2 m3 z
    cases fd with
    | true =>
      have hkl : k < rs.length := HLT.out rfl
      obtain ⟨rb, rfl, e0, -⟩ := row_key ST.out.R.r hkl
      have HX : Hid (rs[k]? = some rs[k]) := List.getElem?_eq_getElem hkl
      generalize hx : rs[k].k = x at *
      have HXX := hide hx
      clear hx
      have hgl := ST.out.gl
      have hml := ST.out.ml
      have hBW := ST.out.hBW
      obtain ⟨⟨c0, c1, c2, c3⟩, f0, f1, f2, f3⟩ := cells4 ST.out.hb
      obtain ⟨⟨m0, m1, m2, m3⟩, -⟩ := cells4 ST.out.hm
      simp only at m0 m1 m2 m3
      have hrl := lt_cell e0
      have HSm : Hid ((Value.slice sa sd.length sc).ownBlock ≠ some w.heap.size) := ST.out.M.sg
      have HSg : Hid ((Value.slice sa sd.length sc).ownBlock ≠ some g) := ST.out.R.sg
      have HSr : Hid ((Value.slice sa sd.length sc).ownBlock ≠ some rb) := fun e => ST.out.R.rs rb rfl e
      have hgr : Hid (g ≠ rb) := fun e => ST.out.R.rg (by rw [e]; rfl)
      have hgm : Hid (g ≠ w.heap.size) := ST.out.ne
      have AC : ∀ o, ((W.alloc o).drew).cell? ⟨g, 3, none⟩ = some (.slice sa sd.length sc) := fun o => (cell_alloc_drew hgl).trans c3
      have HO := hide ST.out.R.s
      go_wp2_with fail
      go_cut [] (fun wx => ∃ (gg cap3 : Nat) (sd1 : List RMove), sd1 = sd ++ [(⟨false, true, row, x⟩ : RMove)] ∧ MvSt B g w.heap.size w wx (.slice (some ⟨rb, 0, none⟩) rs.length rc) vi (.slice (some ⟨gg, 0, none⟩) sd1.length cap3) rs ps its sd1 ⟨false, gn, row, key⟩)
      case first =>
        go_region_law (
          (refine step_append_lies _ (by rfl) _ _ _ (by rfl) B 42 i0 _ 4 24 Try.underlying37 hi hz0 hz1 hz2 rfl (by omega) (.slice sa sd.length sc) sd.length (mvCells sd) (by rfl) (by first | exact own_alloc_drew HO.out _ | exact World.ownsRow.alloc (World.ownsRow.drew HO.out) _) ⟨W.heap.size, 0, none⟩ 1 1 [.bool false, .bool true, .int .i64 row, .int .i64 x] (by rfl) (by rfl) (World.news_of_block (cs := #[.bool false, .bool true, .int .i64 row, .int .i64 x]) (by first | exact blk_drew0 (blk_alloc W _) | exact blk_alloc W.drew _)) (by simp [Value.oneCell']) (by omega) (by unfold maxLen; omega) (by omega) (by simp; omega) (W.heap.size + 1) (by simp) ?_; intro gg cap3 w3 hown hgrow hat hlt; obtain ⟨⟨C0, C1, C2, C3⟩, F0, F1, F2, F3⟩ := cells4 ((hgrow.block g (by simp; omega) (fun e => HSg.out e.symm)).trans ((Below.heap_alloc W (.cells #[.bool false, .bool true, .int .i64 row, .int .i64 x] 42) g hgl).trans ST.out.hb))))
        all_goals
          obtain ⟨sd1, hsd1⟩ : ∃ s, s = sd ++ [(⟨false, true, row, x⟩ : RMove)] := ⟨_, rfl⟩
          have hlsd1 : sd1.length = sd.length + 1 := by rw [hsd1]; simp
          have HN := hide (mvCells_snoc ⟨false, true, row, x⟩ hsd1 hlsd1 hown)
          have ST := hide (ST.out.stepS (H := W.heap.size + 1) (grown_trans (grown_below (below_box W (.cells #[.bool false, .bool true, .int .i64 row, .int .i64 x] 42)).drew _) hgrow) HN.out (hat.imp id (fun h => Nat.le_of_eq h.symm)) (by omega))
          have HEsd1 := hide hsd1
          clear hown hgrow hat hlt AC HO HN HSm HSg hgm C0 C1 C2 C3 F0 F1 F2 F3 hsd1 HSr hgr hrl e0
          rw [← hlsd1] at ST ⊢
          clear hlsd1
          clear hgl hml hBW c0 c1 c2 c3 f0 f1 f2 f3 m0 m1 m2 m3
          go_wp2_with fail
          go_meet
          exact ⟨gg, cap3, sd1, HEsd1.out, ST.out⟩
      case rest =>
        clear AC HO HSm HSg hgm HSr hgr hrl e0 hgl hml hBW c0 c1 c2 c3 f0 f1 f2 f3 m0 m1 m2 m3
        obtain ⟨gg, cap3, sd1, hsd1, hst⟩ := hcut
        have ST := hide hst
        have hbsd1 : sd1.length ≤ sd.length + 1 := by rw [hsd1]; simp
        have HEsd1 := hide hsd1
        clear hsd1 hst
        obtain ⟨W, hW⟩ : ∃ W, W = wc := ⟨_, rfl⟩
        rw [← hW] at ST ⊢
        clear hW
        have hgl := ST.out.gl
        have hml := ST.out.ml
        have hBW := ST.out.hBW
        obtain ⟨⟨c0, c1, c2, c3⟩, f0, f1, f2, f3⟩ := cells4 ST.out.hb
        obtain ⟨⟨m0, m1, m2, m3⟩, -⟩ := cells4 ST.out.hm
        simp only at m0 m1 m2 m3
        go_wp2_with fail
        refine (delI_any B rb rc k _ rs _ ST.out.R.r hkl (by omega)).mono ?_
        rintro e w3 ⟨rfl, ho, hg⟩
        have hbx3 := (hg.block g hgl (fun e => ST.out.R.rg (by rw [e]; rfl))).trans ST.out.hb
        have hmx3 := (hg.block w.heap.size hml (fun e => ST.out.M.rg (by rw [e]; rfl))).trans ST.out.hm
        have ST := hide (ST.out.stepR (H := W.heap.size) hg ho (.inl rfl) (Nat.le_refl _))
        have hl1 := delK_len hkl
        obtain ⟨r1, hr1⟩ : ∃ r, r = delK rs k := ⟨_, rfl⟩
        rw [← hr1] at ST hl1 ⊢
        have HR1 := hide hr1
        clear hr1 ho hg hgl hml hBW c0 c1 c2 c3 f0 f1 f2 f3 m0 m1 m2 m3
        obtain ⟨⟨c0, c1, c2, c3⟩, f0, f1, f2, f3⟩ := cells4 hbx3
        obtain ⟨⟨m0, m1, m2, m3⟩, -⟩ := cells4 hmx3
        simp only at m0 m1 m2 m3
        have hgm : Hid (g ≠ w.heap.size) := ST.out.ne
        have hgm1 : ¬ (g = w.heap.size) := ST.out.ne
        have hgm2 : ¬ (w.heap.size = g) := fun e => ST.out.ne e.symm
        clear hbx3 hmx3
        cases gn with
        | true =>
          have HEQ : Hid (RB = ⟨r1, ps, its, sd1⟩) := by unfold Hid; rw [HC.out]; simp [HR1.out, HEsd1.out, HX.out, HXX.out, HQ.out]
          go_wp2_with fail
          go_ret
          refine ⟨ret_bool (by rw [HEQ.out]; first | rfl | (simp; done) | (simp; omega)), ?_, ST.out.H⟩
          rw [HEQ.out]
          exact ⟨hBg, _, _, _, ST.out.hb, ST.out.R⟩
        | false =>
          go_wp2_with fail
          clear c0 c1 c2 c3 f0 f1 f2 f3 m0 m1 m2 m3 hgm hgm1 hgm2
          generalize w3.setCell ⟨g, 0, none⟩ (.slice (some ⟨rb, 0, none⟩) r1.length rc) = W at *
          have hgl := ST.out.gl
          have hml := ST.out.ml
          have hBW := ST.out.hBW
          obtain ⟨⟨c0, c1, c2, c3⟩, f0, f1, f2, f3⟩ := cells4 ST.out.hb
          obtain ⟨⟨m0, m1, m2, m3⟩, -⟩ := cells4 ST.out.hm
          simp only at m0 m1 m2 m3
          have HSm : Hid ((Value.slice (some ⟨gg, 0, none⟩) sd1.length cap3).ownBlock ≠ some w.heap.size) := ST.out.M.sg
          have HSg : Hid ((Value.slice (some ⟨gg, 0, none⟩) sd1.length cap3).ownBlock ≠ some g) := ST.out.R.sg
          have hgm : Hid (g ≠ w.heap.size) := ST.out.ne
          have AC : ∀ o, ((W.alloc o).drew).cell? ⟨g, 3, none⟩ = some (.slice (some ⟨gg, 0, none⟩) sd1.length cap3) := fun o => (cell_alloc_drew hgl).trans c3
          have HO := hide ST.out.R.s
          go_cut [] (fun wx => ∃ (ggn capn : Nat) (sd1n : List RMove), sd1n = sd1 ++ [(⟨false, false, row, key⟩ : RMove)] ∧ MvSt B g w.heap.size w wx (.slice (some ⟨rb, 0, none⟩) r1.length rc) vi (.slice (some ⟨ggn, 0, none⟩) sd1n.length capn) r1 ps its sd1n ⟨false, false, row, key⟩)
          case first =>
            go_region_law (
              (refine step_append_lies _ (by rfl) _ _ _ (by rfl) B 42 i0 _ 4 24 Try.underlying37 hi hz0 hz1 hz2 rfl (by omega) (.slice (some ⟨gg, 0, none⟩) sd1.length cap3) sd1.length (mvCells sd1) (by rfl) (by first | exact own_alloc_drew HO.out _ | exact World.ownsRow.alloc (World.ownsRow.drew HO.out) _) ⟨W.heap.size, 0, none⟩ 1 1 [.bool false, .bool false, .int .i64 row, .int .i64 key] (by rfl) (by rfl) (World.news_of_block (cs := #[.bool false, .bool false, .int .i64 row, .int .i64 key]) (by first | exact blk_drew0 (blk_alloc W _) | exact blk_alloc W.drew _)) (by simp [Value.oneCell']) (by omega) (by unfold maxLen; omega) (by omega) (by simp; omega) (W.heap.size + 1) (by simp) ?_; intro ggn capn w3 hown hgrow hat hlt; obtain ⟨⟨C0, C1, C2, C3⟩, F0, F1, F2, F3⟩ := cells4 ((hgrow.block g (by simp; omega) (fun e => HSg.out e.symm)).trans ((Below.heap_alloc W (.cells #[.bool false, .bool false, .int .i64 row, .int .i64 key] 42) g hgl).trans ST.out.hb))))
            all_goals
              obtain ⟨sd1n, hsd1n⟩ : ∃ s, s = sd1 ++ [(⟨false, false, row, key⟩ : RMove)] := ⟨_, rfl⟩
              have hlsd1n : sd1n.length = sd1.length + 1 := by rw [hsd1n]; simp
              have HN := hide (mvCells_snoc ⟨false, false, row, key⟩ hsd1n hlsd1n hown)
              have ST := hide (ST.out.stepS (H := W.heap.size + 1) (grown_trans (grown_below (below_box W (.cells #[.bool false, .bool false, .int .i64 row, .int .i64 key] 42)).drew _) hgrow) HN.out (hat.imp id (fun h => Nat.le_of_eq h.symm)) (by omega))
              have HEsd1n := hide hsd1n
              clear hown hgrow hat hlt AC HO HN HSm HSg hgm C0 C1 C2 C3 F0 F1 F2 F3 hsd1n
              rw [← hlsd1n] at ST ⊢
              clear hlsd1n
              clear hgl hml hBW c0 c1 c2 c3 f0 f1 f2 f3 m0 m1 m2 m3
              go_wp2_with fail
              go_meet
              exact ⟨ggn, capn, sd1n, HEsd1n.out, ST.out⟩
          case rest =>
            clear AC HO HSm HSg hgm hgl hml hBW c0 c1 c2 c3 f0 f1 f2 f3 m0 m1 m2 m3
            obtain ⟨ggn, capn, sd1n, hsd1n, hst⟩ := hcut
            have ST := hide hst
            have hbsd1n : sd1n.length ≤ sd1.length + 1 := by rw [hsd1n]; simp
            have HEsd1n := hide hsd1n
            clear hsd1n hst
            obtain ⟨W, hW⟩ : ∃ W, W = wc := ⟨_, rfl⟩
            rw [← hW] at ST ⊢
            clear hW
            have hgl := ST.out.gl
            have hml := ST.out.ml
            have hBW := ST.out.hBW
            obtain ⟨⟨c0, c1, c2, c3⟩, f0, f1, f2, f3⟩ := cells4 ST.out.hb
            obtain ⟨⟨m0, m1, m2, m3⟩, -⟩ := cells4 ST.out.hm
            simp only at m0 m1 m2 m3
            have HSm : Hid ((Value.slice (some ⟨rb, 0, none⟩) r1.length rc).ownBlock ≠ some w.heap.size) := ST.out.M.rg
            have HSg : Hid ((Value.slice (some ⟨rb, 0, none⟩) r1.length rc).ownBlock ≠ some g) := ST.out.R.rg
            have hgm : Hid (g ≠ w.heap.size) := ST.out.ne
            have AC : ∀ o, ((W.alloc o).drew).cell? ⟨g, 0, none⟩ = some (.slice (some ⟨rb, 0, none⟩) r1.length rc) := fun o => (cell_alloc_drew hgl).trans c0
            have HO := hide ST.out.R.r
            have HI : Hid (∀ j : Int, j = (k : Int) → Calls Try.prog 76 #[.slice (some ⟨rb, 0, none⟩) r1.length rc, .int .i64 j, .slice (some ⟨W.heap.size, 0, none⟩) 1 1] ((W.alloc (.cells #[.int .i64 key, .int .i64 row] 29)).drew) (InsRet B (.slice (some ⟨rb, 0, none⟩) r1.length rc) (insK r1 k ⟨key, row⟩) ((W.alloc (.cells #[.int .i64 key, .int .i64 row] 29)).drew))) := fun j hj => by
              subst hj
              exact insI_any B W.heap.size 1 k _ ⟨key, row⟩ r1 _ (own_alloc_drew HO.out _) (by simp; omega) (by omega) (by omega) (blk_drew0 (blk_alloc W _)) (fun e => by have := (World.ownsRow.lt HO.out _ e).2; omega)
            go_wp2_with fail
            go_cut [] (fun wx => ∃ (gg cap3 : Nat) (r2 : List Itm), r2 = insK r1 k ⟨key, row⟩ ∧ MvSt B g w.heap.size w wx (.slice (some ⟨gg, 0, none⟩) r2.length cap3) vi (.slice (some ⟨ggn, 0, none⟩) sd1n.length capn) r2 ps its sd1n ⟨false, false, row, key⟩)
            case first =>
              go_region_law (go_simp; go_at_call 76; (with_reducible refine (HI.out _ (by rfl)).mono ?_); rintro e w3 ⟨gg, cap3, rfl, hown, hgrow, hat⟩; obtain ⟨⟨C0, C1, C2, C3⟩, F0, F1, F2, F3⟩ := cells4 ((hgrow.block g (by simp; omega) (fun e => HSg.out e.symm)).trans ((Below.heap_alloc W (.cells #[.int .i64 key, .int .i64 row] 29) g hgl).trans ST.out.hb)))
              all_goals
                have ST := hide (ST.out.stepR (H := W.heap.size + 1) (grown_trans (grown_below (below_box W (.cells #[.int .i64 key, .int .i64 row] 29)).drew _) hgrow) hown (hat.imp id (fun h => by simpa using h)) (by omega))
                obtain ⟨r2, hr2⟩ : ∃ r, r = insK r1 k ⟨key, row⟩ := ⟨_, rfl⟩
                rw [← hr2] at ST ⊢
                have HR2 := hide hr2
                clear hr2 hown hgrow hat AC HO HSm HSg hgm HI C0 C1 C2 C3 F0 F1 F2 F3 hgl hml hBW c0 c1 c2 c3 f0 f1 f2 f3 m0 m1 m2 m3
                go_wp2_with fail
                go_meet
                exact ⟨gg, cap3, r2, HR2.out, ST.out⟩
            case rest =>
              clear AC HO HSm HSg hgm HI hgl hml hBW c0 c1 c2 c3 f0 f1 f2 f3 m0 m1 m2 m3
              obtain ⟨gg, cap3, r2, hr2, hst⟩ := hcut
              have ST := hide hst
              have HR2 := hide hr2
              have hb2 : r2.length ≤ r1.length + 1 := by rw [hr2]; exact Nat.le_of_eq (insK_len (by omega) _)
              clear hr2 hst
              obtain ⟨W, hW⟩ : ∃ W, W = wc := ⟨_, rfl⟩
              rw [← hW] at ST ⊢
              clear hW
              have hgl := ST.out.gl
              have hml := ST.out.ml
              have hBW := ST.out.hBW
              obtain ⟨⟨c0, c1, c2, c3⟩, f0, f1, f2, f3⟩ := cells4 ST.out.hb
              obtain ⟨⟨m0, m1, m2, m3⟩, -⟩ := cells4 ST.out.hm
              simp only at m0 m1 m2 m3
              have HEQ : Hid (RB = ⟨r2, ps, its, sd1n⟩) := by unfold Hid; rw [HC.out]; simp [HR2.out, HEsd1n.out, HR1.out, HEsd1.out, HX.out, HXX.out, HQ.out]
              go_wp2_with fail
              go_ret
              refine ⟨ret_bool (by rw [HEQ.out]; first | rfl | (simp; done) | (simp; omega)), ?_, ST.out.H⟩
              rw [HEQ.out]
              exact ⟨hBg, _, _, _, ST.out.hb, ST.out.R⟩
    | false =>
      cases gn with
      | true =>
        have hgl := ST.out.gl
        have hml := ST.out.ml
        have hBW := ST.out.hBW
        obtain ⟨⟨c0, c1, c2, c3⟩, f0, f1, f2, f3⟩ := cells4 ST.out.hb
        obtain ⟨⟨m0, m1, m2, m3⟩, -⟩ := cells4 ST.out.hm
        simp only at m0 m1 m2 m3
        have HEQ : Hid (RB = ⟨rs, ps, its, sd⟩) := by unfold Hid; rw [HC.out]; simp [HQ.out]
        go_wp2_with fail
        go_ret
        refine ⟨ret_bool (by rw [HEQ.out]; first | rfl | (simp; done) | (simp; omega)), ?_, ST.out.H⟩
        rw [HEQ.out]
        exact ⟨hBg, _, _, _, ST.out.hb, ST.out.R⟩
      | false =>
        have hgl := ST.out.gl
        have hml := ST.out.ml
        have hBW := ST.out.hBW
        obtain ⟨⟨c0, c1, c2, c3⟩, f0, f1, f2, f3⟩ := cells4 ST.out.hb
        obtain ⟨⟨m0, m1, m2, m3⟩, -⟩ := cells4 ST.out.hm
        simp only at m0 m1 m2 m3
        have HSm : Hid ((Value.slice sa sd.length sc).ownBlock ≠ some w.heap.size) := ST.out.M.sg
        have HSg : Hid ((Value.slice sa sd.length sc).ownBlock ≠ some g) := ST.out.R.sg
        have hgm : Hid (g ≠ w.heap.size) := ST.out.ne
        have AC : ∀ o, ((W.alloc o).drew).cell? ⟨g, 3, none⟩ = some (.slice sa sd.length sc) := fun o => (cell_alloc_drew hgl).trans c3
        have HO := hide ST.out.R.s
        go_wp2_with fail
        go_cut [] (fun wx => ∃ (ggn capn : Nat) (sdn : List RMove), sdn = sd ++ [(⟨false, false, row, key⟩ : RMove)] ∧ MvSt B g w.heap.size w wx (.slice ra rs.length rc) vi (.slice (some ⟨ggn, 0, none⟩) sdn.length capn) rs ps its sdn ⟨false, false, row, key⟩)
        case first =>
          go_region_law (
            (refine step_append_lies _ (by rfl) _ _ _ (by rfl) B 42 i0 _ 4 24 Try.underlying37 hi hz0 hz1 hz2 rfl (by omega) (.slice sa sd.length sc) sd.length (mvCells sd) (by rfl) (by first | exact own_alloc_drew HO.out _ | exact World.ownsRow.alloc (World.ownsRow.drew HO.out) _) ⟨W.heap.size, 0, none⟩ 1 1 [.bool false, .bool false, .int .i64 row, .int .i64 key] (by rfl) (by rfl) (World.news_of_block (cs := #[.bool false, .bool false, .int .i64 row, .int .i64 key]) (by first | exact blk_drew0 (blk_alloc W _) | exact blk_alloc W.drew _)) (by simp [Value.oneCell']) (by omega) (by unfold maxLen; omega) (by omega) (by simp; omega) (W.heap.size + 1) (by simp) ?_; intro ggn capn w3 hown hgrow hat hlt; obtain ⟨⟨C0, C1, C2, C3⟩, F0, F1, F2, F3⟩ := cells4 ((hgrow.block g (by simp; omega) (fun e => HSg.out e.symm)).trans ((Below.heap_alloc W (.cells #[.bool false, .bool false, .int .i64 row, .int .i64 key] 42) g hgl).trans ST.out.hb))))
          all_goals
            obtain ⟨sdn, hsdn⟩ : ∃ s, s = sd ++ [(⟨false, false, row, key⟩ : RMove)] := ⟨_, rfl⟩
            have hlsdn : sdn.length = sd.length + 1 := by rw [hsdn]; simp
            have HN := hide (mvCells_snoc ⟨false, false, row, key⟩ hsdn hlsdn hown)
            have ST := hide (ST.out.stepS (H := W.heap.size + 1) (grown_trans (grown_below (below_box W (.cells #[.bool false, .bool false, .int .i64 row, .int .i64 key] 42)).drew _) hgrow) HN.out (hat.imp id (fun h => Nat.le_of_eq h.symm)) (by omega))
            have HEsdn := hide hsdn
            clear hown hgrow hat hlt AC HO HN HSm HSg hgm C0 C1 C2 C3 F0 F1 F2 F3 hsdn
            rw [← hlsdn] at ST ⊢
            clear hlsdn
            clear hgl hml hBW c0 c1 c2 c3 f0 f1 f2 f3 m0 m1 m2 m3
            go_wp2_with fail
            go_meet
            exact ⟨ggn, capn, sdn, HEsdn.out, ST.out⟩
        case rest =>
          clear AC HO HSm HSg hgm hgl hml hBW c0 c1 c2 c3 f0 f1 f2 f3 m0 m1 m2 m3
          obtain ⟨ggn, capn, sdn, hsdn, hst⟩ := hcut
          have ST := hide hst
          have hbsdn : sdn.length ≤ sd.length + 1 := by rw [hsdn]; simp
          have HEsdn := hide hsdn
          clear hsdn hst
          obtain ⟨W, hW⟩ : ∃ W, W = wc := ⟨_, rfl⟩
          rw [← hW] at ST ⊢
          clear hW
          have hgl := ST.out.gl
          have hml := ST.out.ml
          have hBW := ST.out.hBW
          obtain ⟨⟨c0, c1, c2, c3⟩, f0, f1, f2, f3⟩ := cells4 ST.out.hb
          obtain ⟨⟨m0, m1, m2, m3⟩, -⟩ := cells4 ST.out.hm
          simp only at m0 m1 m2 m3
          have HSm : Hid ((Value.slice ra rs.length rc).ownBlock ≠ some w.heap.size) := ST.out.M.rg
          have HSg : Hid ((Value.slice ra rs.length rc).ownBlock ≠ some g) := ST.out.R.rg
          have hgm : Hid (g ≠ w.heap.size) := ST.out.ne
          have AC : ∀ o, ((W.alloc o).drew).cell? ⟨g, 0, none⟩ = some (.slice ra rs.length rc) := fun o => (cell_alloc_drew hgl).trans c0
          have HO := hide ST.out.R.r
          have HI : Hid (∀ j : Int, j = (k : Int) → Calls Try.prog 76 #[.slice ra rs.length rc, .int .i64 j, .slice (some ⟨W.heap.size, 0, none⟩) 1 1] ((W.alloc (.cells #[.int .i64 key, .int .i64 row] 29)).drew) (InsRet B (.slice ra rs.length rc) (insK rs k ⟨key, row⟩) ((W.alloc (.cells #[.int .i64 key, .int .i64 row] 29)).drew))) := fun j hj => by
            subst hj
            exact insI_any B W.heap.size 1 k _ ⟨key, row⟩ rs _ (own_alloc_drew HO.out _) (by simp; omega) (by omega) (by omega) (blk_drew0 (blk_alloc W _)) (fun e => by have := (World.ownsRow.lt HO.out _ e).2; omega)
          go_wp2_with fail
          go_cut [] (fun wx => ∃ (gg cap3 : Nat) (r2 : List Itm), r2 = insK rs k ⟨key, row⟩ ∧ MvSt B g w.heap.size w wx (.slice (some ⟨gg, 0, none⟩) r2.length cap3) vi (.slice (some ⟨ggn, 0, none⟩) sdn.length capn) r2 ps its sdn ⟨false, false, row, key⟩)
          case first =>
            go_region_law (go_simp; go_at_call 76; (with_reducible refine (HI.out _ (by rfl)).mono ?_); rintro e w3 ⟨gg, cap3, rfl, hown, hgrow, hat⟩; obtain ⟨⟨C0, C1, C2, C3⟩, F0, F1, F2, F3⟩ := cells4 ((hgrow.block g (by simp; omega) (fun e => HSg.out e.symm)).trans ((Below.heap_alloc W (.cells #[.int .i64 key, .int .i64 row] 29) g hgl).trans ST.out.hb)))
            all_goals
              have ST := hide (ST.out.stepR (H := W.heap.size + 1) (grown_trans (grown_below (below_box W (.cells #[.int .i64 key, .int .i64 row] 29)).drew _) hgrow) hown (hat.imp id (fun h => by simpa using h)) (by omega))
              obtain ⟨r2, hr2⟩ : ∃ r, r = insK rs k ⟨key, row⟩ := ⟨_, rfl⟩
              rw [← hr2] at ST ⊢
              have HR2 := hide hr2
              clear hr2 hown hgrow hat AC HO HSm HSg hgm HI C0 C1 C2 C3 F0 F1 F2 F3 hgl hml hBW c0 c1 c2 c3 f0 f1 f2 f3 m0 m1 m2 m3
              go_wp2_with fail
              go_meet
              exact ⟨gg, cap3, r2, HR2.out, ST.out⟩
          case rest =>
            clear AC HO HSm HSg hgm HI hgl hml hBW c0 c1 c2 c3 f0 f1 f2 f3 m0 m1 m2 m3
            obtain ⟨gg, cap3, r2, hr2, hst⟩ := hcut
            have ST := hide hst
            have HR2 := hide hr2
            have hb2 : r2.length ≤ rs.length + 1 := by rw [hr2]; exact Nat.le_of_eq (insK_len (by omega) _)
            clear hr2 hst
            obtain ⟨W, hW⟩ : ∃ W, W = wc := ⟨_, rfl⟩
            rw [← hW] at ST ⊢
            clear hW
            have hgl := ST.out.gl
            have hml := ST.out.ml
            have hBW := ST.out.hBW
            obtain ⟨⟨c0, c1, c2, c3⟩, f0, f1, f2, f3⟩ := cells4 ST.out.hb
            obtain ⟨⟨m0, m1, m2, m3⟩, -⟩ := cells4 ST.out.hm
            simp only at m0 m1 m2 m3
            have HEQ : Hid (RB = ⟨r2, ps, its, sdn⟩) := by unfold Hid; rw [HC.out]; simp [HR2.out, HEsdn.out, HQ.out]
            go_wp2_with fail
            go_ret
            refine ⟨ret_bool (by rw [HEQ.out]; first | rfl | (simp; done) | (simp; omega)), ?_, ST.out.H⟩
            rw [HEQ.out]
            exact ⟨hBg, _, _, _, ST.out.hb, ST.out.R⟩
  · have dq : decide (row ≤ ps) = false := decide_eq_false hq
    have HQ := hide hq
    clear hq
    have hgl := ST.out.gl
    have hml := ST.out.ml
    have hBW := ST.out.hBW
    obtain ⟨⟨c0, c1, c2, c3⟩, f0, f1, f2, f3⟩ := cells4 ST.out.hb
    obtain ⟨⟨m0, m1, m2, m3⟩, -⟩ := cells4 ST.out.hm
    simp only at m0 m1 m2 m3
    have q1 := fun z : BW w1 => bw_cell (p := ⟨g, 1, none⟩) hgl c1 z
    have q2 := fun z : BW w1 => bw_cell (p := ⟨w.heap.size, 2, none⟩) hml m2 z
    go_wp2_with fail
    refine wp_region_bw (by kernel_rfl) (by kernel_rfl) ?_
    repeat (go_big_quiet_step (fail))
    refine wpQuiet_nil ?_
    rintro _ ⟨z, rfl⟩
    have ST := hide (ST.out.keep z.h)
    clear q1 q2
    generalize z.v = W at *
    clear hgl hml hBW c0 c1 c2 c3 f0 f1 f2 f3 m0 m1 m2 m3 z
    cases fd with
    | true =>
      have hkl : k < rs.length := HLT.out rfl
      obtain ⟨rb, rfl, e0, -⟩ := row_key ST.out.R.r hkl
      clear e0
      have hgl := ST.out.gl
      have hml := ST.out.ml
      have hBW := ST.out.hBW
      obtain ⟨⟨c0, c1, c2, c3⟩, f0, f1, f2, f3⟩ := cells4 ST.out.hb
      obtain ⟨⟨m0, m1, m2, m3⟩, -⟩ := cells4 ST.out.hm
      simp only at m0 m1 m2 m3
      go_wp2_with fail
      refine (delI_any B rb rc k _ rs _ ST.out.R.r hkl (by omega)).mono ?_
      rintro e w3 ⟨rfl, ho, hg⟩
      have hbx3 := (hg.block g hgl (fun e => ST.out.R.rg (by rw [e]; rfl))).trans ST.out.hb
      have hmx3 := (hg.block w.heap.size hml (fun e => ST.out.M.rg (by rw [e]; rfl))).trans ST.out.hm
      have ST := hide (ST.out.stepR (H := W.heap.size) hg ho (.inl rfl) (Nat.le_refl _))
      have hl1 := delK_len hkl
      obtain ⟨r1, hr1⟩ : ∃ r, r = delK rs k := ⟨_, rfl⟩
      rw [← hr1] at ST hl1 ⊢
      have HR1 := hide hr1
      clear hr1 ho hg hgl hml hBW c0 c1 c2 c3 f0 f1 f2 f3 m0 m1 m2 m3
      obtain ⟨⟨c0, c1, c2, c3⟩, f0, f1, f2, f3⟩ := cells4 hbx3
      obtain ⟨⟨m0, m1, m2, m3⟩, -⟩ := cells4 hmx3
      simp only at m0 m1 m2 m3
      have hgm : Hid (g ≠ w.heap.size) := ST.out.ne
      have hgm1 : ¬ (g = w.heap.size) := ST.out.ne
      have hgm2 : ¬ (w.heap.size = g) := fun e => ST.out.ne e.symm
      clear hbx3 hmx3
      cases gn with
      | true =>
        have HEQ : Hid (RB = ⟨r1, ps, its, sd⟩) := by unfold Hid; rw [HC.out]; simp [HR1.out, (show ¬ row ≤ ps by have := HQ.out; omega)]
        go_wp2_with fail
        go_ret
        refine ⟨ret_bool (by rw [HEQ.out]; first | rfl | (simp; done) | (simp; omega)), ?_, ST.out.H⟩
        rw [HEQ.out]
        exact ⟨hBg, _, _, _, ST.out.hb, ST.out.R⟩
      | false =>
        go_wp2_with fail
        clear c0 c1 c2 c3 f0 f1 f2 f3 m0 m1 m2 m3 hgm hgm1 hgm2
        generalize w3.setCell ⟨g, 0, none⟩ (.slice (some ⟨rb, 0, none⟩) r1.length rc) = W at *
        have hgl := ST.out.gl
        have hml := ST.out.ml
        have hBW := ST.out.hBW
        obtain ⟨⟨c0, c1, c2, c3⟩, f0, f1, f2, f3⟩ := cells4 ST.out.hb
        obtain ⟨⟨m0, m1, m2, m3⟩, -⟩ := cells4 ST.out.hm
        simp only at m0 m1 m2 m3
        have HSm : Hid ((Value.slice (some ⟨rb, 0, none⟩) r1.length rc).ownBlock ≠ some w.heap.size) := ST.out.M.rg
        have HSg : Hid ((Value.slice (some ⟨rb, 0, none⟩) r1.length rc).ownBlock ≠ some g) := ST.out.R.rg
        have hgm : Hid (g ≠ w.heap.size) := ST.out.ne
        have AC : ∀ o, ((W.alloc o).drew).cell? ⟨g, 0, none⟩ = some (.slice (some ⟨rb, 0, none⟩) r1.length rc) := fun o => (cell_alloc_drew hgl).trans c0
        have HO := hide ST.out.R.r
        have HI : Hid (∀ j : Int, j = (k : Int) → Calls Try.prog 76 #[.slice (some ⟨rb, 0, none⟩) r1.length rc, .int .i64 j, .slice (some ⟨W.heap.size, 0, none⟩) 1 1] ((W.alloc (.cells #[.int .i64 key, .int .i64 row] 29)).drew) (InsRet B (.slice (some ⟨rb, 0, none⟩) r1.length rc) (insK r1 k ⟨key, row⟩) ((W.alloc (.cells #[.int .i64 key, .int .i64 row] 29)).drew))) := fun j hj => by
          subst hj
          exact insI_any B W.heap.size 1 k _ ⟨key, row⟩ r1 _ (own_alloc_drew HO.out _) (by simp; omega) (by omega) (by omega) (blk_drew0 (blk_alloc W _)) (fun e => by have := (World.ownsRow.lt HO.out _ e).2; omega)
        go_cut [] (fun wx => ∃ (gg cap3 : Nat) (r2 : List Itm), r2 = insK r1 k ⟨key, row⟩ ∧ MvSt B g w.heap.size w wx (.slice (some ⟨gg, 0, none⟩) r2.length cap3) vi (.slice sa sd.length sc) r2 ps its sd ⟨false, false, row, key⟩)
        case first =>
          go_region_law (go_simp; go_at_call 76; (with_reducible refine (HI.out _ (by rfl)).mono ?_); rintro e w3 ⟨gg, cap3, rfl, hown, hgrow, hat⟩; obtain ⟨⟨C0, C1, C2, C3⟩, F0, F1, F2, F3⟩ := cells4 ((hgrow.block g (by simp; omega) (fun e => HSg.out e.symm)).trans ((Below.heap_alloc W (.cells #[.int .i64 key, .int .i64 row] 29) g hgl).trans ST.out.hb)))
          all_goals
            have ST := hide (ST.out.stepR (H := W.heap.size + 1) (grown_trans (grown_below (below_box W (.cells #[.int .i64 key, .int .i64 row] 29)).drew _) hgrow) hown (hat.imp id (fun h => by simpa using h)) (by omega))
            obtain ⟨r2, hr2⟩ : ∃ r, r = insK r1 k ⟨key, row⟩ := ⟨_, rfl⟩
            rw [← hr2] at ST ⊢
            have HR2 := hide hr2
            clear hr2 hown hgrow hat AC HO HSm HSg hgm HI C0 C1 C2 C3 F0 F1 F2 F3 hgl hml hBW c0 c1 c2 c3 f0 f1 f2 f3 m0 m1 m2 m3
            go_wp2_with fail
            go_meet
            exact ⟨gg, cap3, r2, HR2.out, ST.out⟩
        case rest =>
          clear AC HO HSm HSg hgm HI hgl hml hBW c0 c1 c2 c3 f0 f1 f2 f3 m0 m1 m2 m3
          obtain ⟨gg, cap3, r2, hr2, hst⟩ := hcut
          have ST := hide hst
          have HR2 := hide hr2
          have hb2 : r2.length ≤ r1.length + 1 := by rw [hr2]; exact Nat.le_of_eq (insK_len (by omega) _)
          clear hr2 hst
          obtain ⟨W, hW⟩ : ∃ W, W = wc := ⟨_, rfl⟩
          rw [← hW] at ST ⊢
          clear hW
          have hgl := ST.out.gl
          have hml := ST.out.ml
          have hBW := ST.out.hBW
          obtain ⟨⟨c0, c1, c2, c3⟩, f0, f1, f2, f3⟩ := cells4 ST.out.hb
          obtain ⟨⟨m0, m1, m2, m3⟩, -⟩ := cells4 ST.out.hm
          simp only at m0 m1 m2 m3
          have HEQ : Hid (RB = ⟨r2, ps, its, sd⟩) := by unfold Hid; rw [HC.out]; simp [HR2.out, HR1.out, (show ¬ row ≤ ps by have := HQ.out; omega)]
          go_wp2_with fail
          go_ret
          refine ⟨ret_bool (by rw [HEQ.out]; first | rfl | (simp; done) | (simp; omega)), ?_, ST.out.H⟩
          rw [HEQ.out]
          exact ⟨hBg, _, _, _, ST.out.hb, ST.out.R⟩
    | false =>
      cases gn with
      | true =>
        have hgl := ST.out.gl
        have hml := ST.out.ml
        have hBW := ST.out.hBW
        obtain ⟨⟨c0, c1, c2, c3⟩, f0, f1, f2, f3⟩ := cells4 ST.out.hb
        obtain ⟨⟨m0, m1, m2, m3⟩, -⟩ := cells4 ST.out.hm
        simp only at m0 m1 m2 m3
        have HEQ : Hid (RB = ⟨rs, ps, its, sd⟩) := by unfold Hid; rw [HC.out]; simp [(show ¬ row ≤ ps by have := HQ.out; omega)]
        go_wp2_with fail
        go_ret
        refine ⟨ret_bool (by rw [HEQ.out]; first | rfl | (simp; done) | (simp; omega)), ?_, ST.out.H⟩
        rw [HEQ.out]
        exact ⟨hBg, _, _, _, ST.out.hb, ST.out.R⟩
      | false =>
        have hgl := ST.out.gl
        have hml := ST.out.ml
        have hBW := ST.out.hBW
        obtain ⟨⟨c0, c1, c2, c3⟩, f0, f1, f2, f3⟩ := cells4 ST.out.hb
        obtain ⟨⟨m0, m1, m2, m3⟩, -⟩ := cells4 ST.out.hm
        simp only at m0 m1 m2 m3
        have HSm : Hid ((Value.slice ra rs.length rc).ownBlock ≠ some w.heap.size) := ST.out.M.rg
        have HSg : Hid ((Value.slice ra rs.length rc).ownBlock ≠ some g) := ST.out.R.rg
        have hgm : Hid (g ≠ w.heap.size) := ST.out.ne
        have AC : ∀ o, ((W.alloc o).drew).cell? ⟨g, 0, none⟩ = some (.slice ra rs.length rc) := fun o => (cell_alloc_drew hgl).trans c0
        have HO := hide ST.out.R.r
        have HI : Hid (∀ j : Int, j = (k : Int) → Calls Try.prog 76 #[.slice ra rs.length rc, .int .i64 j, .slice (some ⟨W.heap.size, 0, none⟩) 1 1] ((W.alloc (.cells #[.int .i64 key, .int .i64 row] 29)).drew) (InsRet B (.slice ra rs.length rc) (insK rs k ⟨key, row⟩) ((W.alloc (.cells #[.int .i64 key, .int .i64 row] 29)).drew))) := fun j hj => by
          subst hj
          exact insI_any B W.heap.size 1 k _ ⟨key, row⟩ rs _ (own_alloc_drew HO.out _) (by simp; omega) (by omega) (by omega) (blk_drew0 (blk_alloc W _)) (fun e => by have := (World.ownsRow.lt HO.out _ e).2; omega)
        go_wp2_with fail
        go_cut [] (fun wx => ∃ (gg cap3 : Nat) (r2 : List Itm), r2 = insK rs k ⟨key, row⟩ ∧ MvSt B g w.heap.size w wx (.slice (some ⟨gg, 0, none⟩) r2.length cap3) vi (.slice sa sd.length sc) r2 ps its sd ⟨false, false, row, key⟩)
        case first =>
          go_region_law (go_simp; go_at_call 76; (with_reducible refine (HI.out _ (by rfl)).mono ?_); rintro e w3 ⟨gg, cap3, rfl, hown, hgrow, hat⟩; obtain ⟨⟨C0, C1, C2, C3⟩, F0, F1, F2, F3⟩ := cells4 ((hgrow.block g (by simp; omega) (fun e => HSg.out e.symm)).trans ((Below.heap_alloc W (.cells #[.int .i64 key, .int .i64 row] 29) g hgl).trans ST.out.hb)))
          all_goals
            have ST := hide (ST.out.stepR (H := W.heap.size + 1) (grown_trans (grown_below (below_box W (.cells #[.int .i64 key, .int .i64 row] 29)).drew _) hgrow) hown (hat.imp id (fun h => by simpa using h)) (by omega))
            obtain ⟨r2, hr2⟩ : ∃ r, r = insK rs k ⟨key, row⟩ := ⟨_, rfl⟩
            rw [← hr2] at ST ⊢
            have HR2 := hide hr2
            clear hr2 hown hgrow hat AC HO HSm HSg hgm HI C0 C1 C2 C3 F0 F1 F2 F3 hgl hml hBW c0 c1 c2 c3 f0 f1 f2 f3 m0 m1 m2 m3
            go_wp2_with fail
            go_meet
            exact ⟨gg, cap3, r2, HR2.out, ST.out⟩
        case rest =>
          clear AC HO HSm HSg hgm HI hgl hml hBW c0 c1 c2 c3 f0 f1 f2 f3 m0 m1 m2 m3
          obtain ⟨gg, cap3, r2, hr2, hst⟩ := hcut
          have ST := hide hst
          have HR2 := hide hr2
          have hb2 : r2.length ≤ rs.length + 1 := by rw [hr2]; exact Nat.le_of_eq (insK_len (by omega) _)
          clear hr2 hst
          obtain ⟨W, hW⟩ : ∃ W, W = wc := ⟨_, rfl⟩
          rw [← hW] at ST ⊢
          clear hW
          have hgl := ST.out.gl
          have hml := ST.out.ml
          have hBW := ST.out.hBW
          obtain ⟨⟨c0, c1, c2, c3⟩, f0, f1, f2, f3⟩ := cells4 ST.out.hb
          obtain ⟨⟨m0, m1, m2, m3⟩, -⟩ := cells4 ST.out.hm
          simp only at m0 m1 m2 m3
          have HEQ : Hid (RB = ⟨r2, ps, its, sd⟩) := by unfold Hid; rw [HC.out]; simp [HR2.out, (show ¬ row ≤ ps by have := HQ.out; omega)]
          go_wp2_with fail
          go_ret
          refine ⟨ret_bool (by rw [HEQ.out]; first | rfl | (simp; done) | (simp; omega)), ?_, ST.out.H⟩
          rw [HEQ.out]
          exact ⟨hBg, _, _, _, ST.out.hb, ST.out.R⟩
end Go.Proofs.Ytppbmhlmbepneaa
