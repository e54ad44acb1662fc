/-
  change of the specification's build.
-/
import Derived.Test.YtppbmhlmbepneaaSScan
import Derived.Deep.RegionLaw
import Derived.Deep.RegionWith
import Derived.Deep.DeepCutAuto
import Derived.RegionCalls
set_option linter.all false
namespace Go.Proofs.Ytppbmhlmbepneaa
open Go.RowKit
def atZ (p : Nat) (b : Bool) : Int := if b then (p : Int) else -1
theorem mvCells_snoc2 {B gg n cap : Nat} {w : World} {sd sd1 : List RMove} (e : RMove) (h1 : sd1 = sd ++ [e]) (hl : sd1.length = n)
    (h : w.ownsRow B 42 4 (.slice (some ⟨gg, 0, none⟩) n cap) n (mvCells sd ++ [.bool e.scan, .bool e.gone, .int .i64 e.row, .int .i64 e.key])) : OwnM B w (.slice (some ⟨gg, 0, none⟩) n cap) sd1 := by
  unfold OwnM
  rw [hl, h1, mvCells_app]
  exact h
theorem at_asc (v : Value) (l : List Itm) (n : Int) (w : World) (h : Itms w v l) (hA : AscR l) :
    Calls Try.prog 86 #[v, .int .i64 n] w fun e w' => e = .returned (.int .i64 (atZ (posR l n) (hasR l n))) ∧ Below w.heap.size w w' := by
  refine (at_any v l n w h).mono ?_
  rintro e w' ⟨⟨i, rfl, hi⟩, hb⟩
  refine ⟨?_, hb⟩
  obtain ⟨h1, h2⟩ := posR_parts hA n
  have hh := hasR_of hA n (posR_le l n) h1 h2
  rcases hi with ⟨k, hk, rfl, he⟩ | ⟨rfl, hn⟩
  · have hp : posR l n = k := by
      rcases Nat.lt_trichotomy (posR l n) k with q | q | q
      · have h3 := List.pairwise_iff_getElem.1 hA (posR l n) k (by omega) hk q
        have h4 := h2 (posR l n) (by omega) (Nat.le_refl _)
        unfold nextr at h3; omega
      · exact q
      · have := h1 k hk q; omega
    have hq : hasR l n = true := hh.2 ⟨by rw [hp]; exact hk, by simp only [hp]; exact he⟩
    rw [hq, hp]; rfl
  · have hq : hasR l n = false := by
      cases c : hasR l n with
      | false => rfl
      | true =>
        obtain ⟨hk, he⟩ := hh.1 c
        exact absurd he (hn _ hk)
    rw [hq]; rfl
theorem changeB_spec {b : BS} (h : AscR b.rows) (gn : Bool) (row key : Int) : changeB b ⟨false, gn, row, key⟩ =
    ⟨setRowL b.rows ⟨false, gn, row, key⟩, b.pos, b.items,
      if row ≤ b.pos then b.side ++ (match (if hasR b.rows row then b.rows[posR b.rows row]? else none) with | some e => [⟨false, true, row, e.k⟩] | none => []) ++ (if gn then [] else [⟨false, gn, row, key⟩]) else b.side⟩ := by
  unfold changeB sideM oldM newM
  simp only
  rw [find_at h row]
  rfl
theorem row_at {B c k rb : Nat} {w : World} {rs : List Itm} (h : OwnI B w (.slice (some ⟨rb, 0, none⟩) rs.length c) rs) (hk : k < rs.length) :
    w.cell? ⟨rb, k * 2, none⟩ = some (.int .i64 rs[k].k) ∧ w.cell? ⟨rb, k * 2 + 1, none⟩ = some (.int .i64 rs[k].r) := by
  obtain ⟨q0, q1⟩ := itmCells_at rs k hk
  exact ⟨by rw [World.ownsRow.cellAt h _ (by omega)]; exact q0, by rw [World.ownsRow.cellAt h _ (by omega)]; exact q1⟩
set_option maxHeartbeats 64000000 in
set_option maxRecDepth 100000 in
theorem schange_any (B g : Nat) (b : BS) (gn : Bool) (row key : Int) (w : World) (h : BoxS B g w b) (hv : InvB b) (hrl : b.rows.length ≤ 1000) (hsl : b.side.length ≤ 1000) :
    Calls Try.prog 73 #[.pointer (some ⟨g, 0, none⟩), .agg #[.bool false, .bool gn, .int .i64 row, .int .i64 key]] w (StepS B g w (changeB b ⟨false, gn, row, key⟩)) := by
  obtain ⟨i0, hi, hz0, hz1, hz2⟩ := info_parts infoMove
  obtain ⟨hBg, vr, vi, vs, h1, h2⟩ := h
  have hgw := lt_block h1
  have ST : Hid (MvSs B g w.heap.size w (w.alloc (.cells #[.bool false, .bool gn, .int .i64 row, .int .i64 key] 42)) vr vi vs b.rows b.pos (ordL b.items) b.side ⟨false, gn, row, key⟩) := MvSs.start ⟨false, gn, row, key⟩ hBg h1 h2
  have HF := hide (fun z (hz : Itms z vr b.rows) => at_asc vr b.rows row z hz hv.asc)
  have HC := hide (changeB_spec hv.asc gn row key)
  have HLT : Hid (hasR b.rows row = true → posR b.rows row < b.rows.length) := fun hq => by
    obtain ⟨q1, q2⟩ := posR_parts hv.asc row
    exact ((hasR_of hv.asc row (posR_le _ _) q1 q2).1 hq).1
  have hpl := posR_le b.rows row
  clear h1 h2 hv
  obtain ⟨RB, hRB⟩ : ∃ RB, RB = changeB b ⟨false, gn, row, key⟩ := ⟨_, rfl⟩
  rw [← hRB] at HC ⊢
  clear hRB
  have HITS : Hid (∃ its, its = b.items) := ⟨_, rfl⟩
  go_enter Try.func73, Try.ntmps73
  go_wp2_with fail
  generalize posR b.rows row = k at *
  generalize hasR b.rows row = fd at *
  generalize b.rows = rs at *
  generalize b.pos = ps at *
  obtain ⟨its, hits⟩ : ∃ its, its = b.items := ⟨_, rfl⟩
  rw [← hits] at HC
  generalize hoi : ordL b.items = oi at *
  have HOI : Hid (ordL its = oi) := by rw [hits]; exact hoi
  clear hits hoi HITS
  generalize b.side = sd at *
  obtain ⟨sa, sc, rfl, hsc, hsm⟩ := own_slc ST.out.R.s
  obtain ⟨ra, rc, rfl, hrc, hrm⟩ := own_slc ST.out.R.r
  obtain ⟨W0, hW0⟩ : ∃ W0, W0 = w.alloc (.cells #[.bool false, .bool gn, .int .i64 row, .int .i64 key] 42) := ⟨_, rfl⟩
  rw [← hW0] at ST ⊢
  clear hW0
  have hgl := ST.out.gl
  have hml := ST.out.ml
  have hBW := ST.out.hBW
  obtain ⟨⟨c0, c1, c2, c3⟩, f0, f1, f2, f3⟩ := cells4 ST.out.hb
  obtain ⟨⟨m0, m1, m2, m3⟩, -⟩ := cells4 ST.out.hm
  simp only at m0 m1 m2 m3
  have q1 := fun z : BW W0 => bw_cell (p := ⟨g, 3, none⟩) hgl c3 z
  have q2 := fun z : BW W0 => bw_cell (p := ⟨w.heap.size, 2, none⟩) hml m2 z
  have q3 := fun z : BW W0 => bw_cell (p := ⟨w.heap.size, 1, none⟩) hml m1 z
  have q4 := fun z : BW W0 => bw_cell (p := ⟨g, 0, none⟩) hgl c0 z
  have CV := hide (fun z : BW W0 => HF.out z.v ((ST.out.R.r.keep z.h).itms))
  refine wp_region_bw (by kernel_rfl) (by kernel_rfl) ?_
  repeat (go_big_quiet_step (first | (go_at_call 86; with_reducible exact bw_of (CV.out _))))
  refine wpQuiet_nil ?_
  rintro _ ⟨z, rfl⟩
  have ST := hide (ST.out.keep z.h)
  clear q1 q2 q3 q4 CV HF
  generalize z.v = W at *
  clear hgl hml hBW c0 c1 c2 c3 f0 f1 f2 f3 m0 m1 m2 m3 z
  by_cases hq : row ≤ ps
  · have dq : decide (row ≤ ps) = true := decide_eq_true hq
    have HQ := hide hq
    clear hq
    cases fd with
    | true =>
      have hkl : k < rs.length := HLT.out rfl
      have hk0 : decide ((0 : Int) ≤ (k : Int)) = true := decide_eq_true (by omega)
      have HAT : atZ k true = (k : Int) := rfl
      rw [HAT]
      clear HAT
      obtain ⟨rb, rfl, -, -⟩ := row_key ST.out.R.r hkl
      have HX : Hid (rs[k]? = some rs[k]) := List.getElem?_eq_getElem hkl
      obtain ⟨x, hx⟩ : ∃ x, rs[k].k = x := ⟨_, rfl⟩
      have HXX := hide hx
      clear hx
      have hgl := ST.out.gl
      have hml := ST.out.ml
      have hBW := ST.out.hBW
      obtain ⟨⟨c0, c1, c2, c3⟩, f0, f1, f2, f3⟩ := cells4 ST.out.hb
      obtain ⟨⟨m0, m1, m2, m3⟩, -⟩ := cells4 ST.out.hm
      simp only at m0 m1 m2 m3
      have q1 := fun z : BW W => bw_cell (p := ⟨g, 3, none⟩) hgl c3 z
      have q2 := fun z : BW W => bw_cell (p := ⟨w.heap.size, 2, none⟩) hml m2 z
      have q3 := fun z : BW W => bw_cell (p := ⟨w.heap.size, 1, none⟩) hml m1 z
      have q4 := fun z : BW W => bw_cell (p := ⟨g, 0, none⟩) hgl c0 z
      go_wp2_with fail
      refine wp_region_bw (by kernel_rfl) (by kernel_rfl) ?_
      repeat (go_big_quiet_step (fail))
      refine wpQuiet_nil ?_
      rintro _ ⟨z, rfl⟩
      have ST := hide (ST.out.keep z.h)
      clear q1 q2 q3 q4
      generalize z.v = W at *
      clear hgl hml hBW c0 c1 c2 c3 f0 f1 f2 f3 m0 m1 m2 m3 z
      have hgl := ST.out.gl
      have hml := ST.out.ml
      have hBW := ST.out.hBW
      obtain ⟨⟨c0, c1, c2, c3⟩, f0, f1, f2, f3⟩ := cells4 ST.out.hb
      obtain ⟨⟨m0, m1, m2, m3⟩, -⟩ := cells4 ST.out.hm
      simp only at m0 m1 m2 m3
      have e0 : W.cell? ⟨rb, k * 2, none⟩ = some (.int .i64 x) := by rw [← HXX.out]; exact (row_at ST.out.R.r hkl).1
      have hrl := lt_cell e0
      have HSm : Hid ((Value.slice sa sd.length sc).ownBlock ≠ some w.heap.size) := ST.out.M.sg
      have HSg : Hid ((Value.slice sa sd.length sc).ownBlock ≠ some g) := ST.out.R.sg
      have HSr : Hid ((Value.slice sa sd.length sc).ownBlock ≠ some rb) := fun e => ST.out.R.rs rb rfl e
      have hgr : Hid (g ≠ rb) := fun e => ST.out.R.rg (by rw [e]; rfl)
      have hgm : Hid (g ≠ w.heap.size) := ST.out.ne
      have AC : ∀ o, ((W.alloc o).drew).cell? ⟨g, 2, none⟩ = some (.slice sa sd.length sc) := fun o => (cell_alloc_drew hgl).trans c2
      have HO := hide ST.out.R.s
      go_wp2_with fail
      go_cut [] (fun wx => ∃ (gg cap3 : Nat) (sd1 : List RMove), sd1 = sd ++ [(⟨false, true, row, x⟩ : RMove)] ∧ MvSs B g w.heap.size w wx (.slice (some ⟨rb, 0, none⟩) rs.length rc) vi (.slice (some ⟨gg, 0, none⟩) sd1.length cap3) rs ps oi sd1 ⟨false, gn, row, key⟩)
      case first =>
        go_region_law (
          (refine step_append_lies _ (by rfl) _ _ _ (by rfl) B 42 i0 _ 4 24 Try.underlying37 hi hz0 hz1 hz2 rfl (by omega) (.slice sa sd.length sc) sd.length (mvCells sd) (by rfl) (by first | exact own_alloc_drew HO.out _ | exact World.ownsRow.alloc (World.ownsRow.drew HO.out) _) ⟨W.heap.size, 0, none⟩ 1 1 [.bool false, .bool true, .int .i64 row, .int .i64 x] (by rfl) (by rfl) (World.news_of_block (cs := #[.bool false, .bool true, .int .i64 row, .int .i64 x]) (by first | exact blk_drew0 (blk_alloc W _) | exact blk_alloc W.drew _)) (by simp [Value.oneCell']) (by omega) (by unfold maxLen; omega) (by omega) (by simp; omega) (W.heap.size + 1) (by simp) ?_; intro gg cap3 w3 hown hgrow hat hlt; obtain ⟨⟨C0, C1, C2, C3⟩, F0, F1, F2, F3⟩ := cells4 ((hgrow.block g (by simp; omega) (fun e => HSg.out e.symm)).trans ((Below.heap_alloc W (.cells #[.bool false, .bool true, .int .i64 row, .int .i64 x] 42) g hgl).trans ST.out.hb))))
        all_goals
          obtain ⟨sd1, hsd1⟩ : ∃ s, s = sd ++ [(⟨false, true, row, x⟩ : RMove)] := ⟨_, rfl⟩
          have hlsd1 : sd1.length = sd.length + 1 := by rw [hsd1]; simp
          have HN := hide (mvCells_snoc2 ⟨false, true, row, x⟩ hsd1 hlsd1 hown)
          have ST := hide (ST.out.stepS (H := W.heap.size + 1) (grown_trans (grown_below (below_box W (.cells #[.bool false, .bool true, .int .i64 row, .int .i64 x] 42)).drew _) hgrow) HN.out (hat.imp id (fun h => Nat.le_of_eq h.symm)) (by omega))
          have HEsd1 := hide hsd1
          clear hown hgrow hat hlt AC HO HN HSm HSg hgm C0 C1 C2 C3 F0 F1 F2 F3 hsd1 HSr hgr hrl e0
          rw [← hlsd1] at ST ⊢
          clear hlsd1
          clear hgl hml hBW c0 c1 c2 c3 f0 f1 f2 f3 m0 m1 m2 m3
          go_wp2_with fail
          go_meet
          exact ⟨gg, cap3, sd1, HEsd1.out, ST.out⟩
      case rest =>
        clear AC HO HSm HSg hgm HSr hgr hrl e0 hgl hml hBW c0 c1 c2 c3 f0 f1 f2 f3 m0 m1 m2 m3
        obtain ⟨gg, cap3, sd1, hsd1, hst⟩ := hcut
        have ST := hide hst
        have hbsd1 : sd1.length ≤ sd.length + 1 := by rw [hsd1]; simp
        have HEsd1 := hide hsd1
        clear hsd1 hst
        obtain ⟨W, hW⟩ : ∃ W, W = wc := ⟨_, rfl⟩
        rw [← hW] at ST ⊢
        clear hW
        cases gn with
        | true =>
          have hgl := ST.out.gl
          have hml := ST.out.ml
          have hBW := ST.out.hBW
          obtain ⟨⟨c0, c1, c2, c3⟩, f0, f1, f2, f3⟩ := cells4 ST.out.hb
          obtain ⟨⟨m0, m1, m2, m3⟩, -⟩ := cells4 ST.out.hm
          simp only at m0 m1 m2 m3
          have q1 := fun z : BW W => bw_cell (p := ⟨g, 3, none⟩) hgl c3 z
          have q2 := fun z : BW W => bw_cell (p := ⟨w.heap.size, 2, none⟩) hml m2 z
          have q3 := fun z : BW W => bw_cell (p := ⟨w.heap.size, 1, none⟩) hml m1 z
          have q4 := fun z : BW W => bw_cell (p := ⟨g, 0, none⟩) hgl c0 z
          go_wp2_with fail
          refine wp_region_bw (by kernel_rfl) (by kernel_rfl) ?_
          repeat (go_big_quiet_step (fail))
          refine wpQuiet_nil ?_
          rintro _ ⟨z, rfl⟩
          have ST := hide (ST.out.keep z.h)
          clear q1 q2 q3 q4
          generalize z.v = W at *
          clear hgl hml hBW c0 c1 c2 c3 f0 f1 f2 f3 m0 m1 m2 m3 z
          have hgl := ST.out.gl
          have hml := ST.out.ml
          have hBW := ST.out.hBW
          obtain ⟨⟨c0, c1, c2, c3⟩, f0, f1, f2, f3⟩ := cells4 ST.out.hb
          obtain ⟨⟨m0, m1, m2, m3⟩, -⟩ := cells4 ST.out.hm
          simp only at m0 m1 m2 m3
          have HSR := hide (fun z (hz : Below W.heap.size W z) => setRow_any _ rs ⟨false, true, row, key⟩ z ((ST.out.R.r.keep hz).itms) (by omega))
          have HDW : Hid (Below W.heap.size W W.drew) := (Below.refl _ _).drew
          go_wp2_with fail
          go_region_law (go_simp; go_at_call 51; (with_reducible refine (HSR.out _ HDW.out).mono ?_); rintro e w4 ⟨v4, rfl, ho, hb⟩; have HO4 := hide ho; have HB4 := hide (HDW.out.trans hb); have X4 := hide (blk_own HB4.out ST.out.hb); obtain ⟨⟨C0, C1, C2, C3⟩, F0, F1, F2, F3⟩ := cells4 X4.out; obtain ⟨va4, vc4, rfl, -⟩ := own_slc ho; clear ho hb)
          all_goals
            have ST := hide (ST.out.newR HB4.out HO4.out)
            have HEQ : Hid (RB = ⟨setRowL rs ⟨false, true, row, key⟩, ps, its, sd1⟩) := by unfold Hid; rw [HC.out]; simp [HEsd1.out, HX.out, HXX.out, HQ.out]
            clear HSR HO4 HB4 X4 C0 C1 C2 C3 F0 F1 F2 F3 hgl hml hBW c0 c1 c2 c3 f0 f1 f2 f3 m0 m1 m2 m3
            go_wp2_with fail
            go_end0
            refine ⟨rfl, ?_, ST.out.H⟩
            rw [HEQ.out]
            exact ⟨hBg, _, _, _, ST.out.hb, by rw [HOI.out]; exact ST.out.R⟩
        | false =>
          have hgl := ST.out.gl
          have hml := ST.out.ml
          have hBW := ST.out.hBW
          obtain ⟨⟨c0, c1, c2, c3⟩, f0, f1, f2, f3⟩ := cells4 ST.out.hb
          obtain ⟨⟨m0, m1, m2, m3⟩, -⟩ := cells4 ST.out.hm
          simp only at m0 m1 m2 m3
          have q1 := fun z : BW W => bw_cell (p := ⟨g, 3, none⟩) hgl c3 z
          have q2 := fun z : BW W => bw_cell (p := ⟨w.heap.size, 2, none⟩) hml m2 z
          have q3 := fun z : BW W => bw_cell (p := ⟨w.heap.size, 1, none⟩) hml m1 z
          have q4 := fun z : BW W => bw_cell (p := ⟨g, 0, none⟩) hgl c0 z
          go_wp2_with fail
          refine wp_region_bw (by kernel_rfl) (by kernel_rfl) ?_
          repeat (go_big_quiet_step (fail))
          refine wpQuiet_nil ?_
          rintro _ ⟨z, rfl⟩
          have ST := hide (ST.out.keep z.h)
          clear q1 q2 q3 q4
          generalize z.v = W at *
          clear hgl hml hBW c0 c1 c2 c3 f0 f1 f2 f3 m0 m1 m2 m3 z
          have hgl := ST.out.gl
          have hml := ST.out.ml
          have hBW := ST.out.hBW
          obtain ⟨⟨c0, c1, c2, c3⟩, f0, f1, f2, f3⟩ := cells4 ST.out.hb
          obtain ⟨⟨m0, m1, m2, m3⟩, -⟩ := cells4 ST.out.hm
          simp only at m0 m1 m2 m3
          have HSm : Hid ((Value.slice (some ⟨gg, 0, none⟩) sd1.length cap3).ownBlock ≠ some w.heap.size) := ST.out.M.sg
          have HSg : Hid ((Value.slice (some ⟨gg, 0, none⟩) sd1.length cap3).ownBlock ≠ some g) := ST.out.R.sg
          have hgm : Hid (g ≠ w.heap.size) := ST.out.ne
          have AC : ∀ o, ((W.alloc o).drew).cell? ⟨g, 2, none⟩ = some (.slice (some ⟨gg, 0, none⟩) sd1.length cap3) := fun o => (cell_alloc_drew hgl).trans c2
          have HO := hide ST.out.R.s
          go_wp2_with fail
          go_cut [] (fun wx => ∃ (ggn capn : Nat) (sd1n : List RMove), sd1n = sd1 ++ [(⟨false, false, row, key⟩ : RMove)] ∧ MvSs B g w.heap.size w wx (.slice (some ⟨rb, 0, none⟩) rs.length rc) vi (.slice (some ⟨ggn, 0, none⟩) sd1n.length capn) rs ps oi sd1n ⟨false, false, row, key⟩)
          case first =>
            go_region_law (
              (refine step_append_lies _ (by rfl) _ _ _ (by rfl) B 42 i0 _ 4 24 Try.underlying37 hi hz0 hz1 hz2 rfl (by omega) (.slice (some ⟨gg, 0, none⟩) sd1.length cap3) sd1.length (mvCells sd1) (by rfl) (by first | exact own_alloc_drew HO.out _ | exact World.ownsRow.alloc (World.ownsRow.drew HO.out) _) ⟨W.heap.size, 0, none⟩ 1 1 [.bool false, .bool false, .int .i64 row, .int .i64 key] (by rfl) (by rfl) (World.news_of_block (cs := #[.bool false, .bool false, .int .i64 row, .int .i64 key]) (by first | exact blk_drew0 (blk_alloc W _) | exact blk_alloc W.drew _)) (by simp [Value.oneCell']) (by omega) (by unfold maxLen; omega) (by omega) (by simp; omega) (W.heap.size + 1) (by simp) ?_; intro ggn capn w3 hown hgrow hat hlt; obtain ⟨⟨C0, C1, C2, C3⟩, F0, F1, F2, F3⟩ := cells4 ((hgrow.block g (by simp; omega) (fun e => HSg.out e.symm)).trans ((Below.heap_alloc W (.cells #[.bool false, .bool false, .int .i64 row, .int .i64 key] 42) g hgl).trans ST.out.hb))))
            all_goals
              obtain ⟨sd1n, hsd1n⟩ : ∃ s, s = sd1 ++ [(⟨false, false, row, key⟩ : RMove)] := ⟨_, rfl⟩
              have hlsd1n : sd1n.length = sd1.length + 1 := by rw [hsd1n]; simp
              have HN := hide (mvCells_snoc2 ⟨false, false, row, key⟩ hsd1n hlsd1n hown)
              have ST := hide (ST.out.stepS (H := W.heap.size + 1) (grown_trans (grown_below (below_box W (.cells #[.bool false, .bool false, .int .i64 row, .int .i64 key] 42)).drew _) hgrow) HN.out (hat.imp id (fun h => Nat.le_of_eq h.symm)) (by omega))
              have HEsd1n := hide hsd1n
              clear hown hgrow hat hlt AC HO HN HSm HSg hgm C0 C1 C2 C3 F0 F1 F2 F3 hsd1n
              rw [← hlsd1n] at ST ⊢
              clear hlsd1n
              clear hgl hml hBW c0 c1 c2 c3 f0 f1 f2 f3 m0 m1 m2 m3
              go_wp2_with fail
              go_meet
              exact ⟨ggn, capn, sd1n, HEsd1n.out, ST.out⟩
          case rest =>
            clear AC HO HSm HSg hgm hgl hml hBW c0 c1 c2 c3 f0 f1 f2 f3 m0 m1 m2 m3
            obtain ⟨ggn, capn, sd1n, hsd1n, hst⟩ := hcut
            have ST := hide hst
            have hbsd1n : sd1n.length ≤ sd1.length + 1 := by rw [hsd1n]; simp
            have HEsd1n := hide hsd1n
            clear hsd1n hst
            obtain ⟨W, hW⟩ : ∃ W, W = wc := ⟨_, rfl⟩
            rw [← hW] at ST ⊢
            clear hW
            have hgl := ST.out.gl
            have hml := ST.out.ml
            have hBW := ST.out.hBW
            obtain ⟨⟨c0, c1, c2, c3⟩, f0, f1, f2, f3⟩ := cells4 ST.out.hb
            obtain ⟨⟨m0, m1, m2, m3⟩, -⟩ := cells4 ST.out.hm
            simp only at m0 m1 m2 m3
            have HSR := hide (fun z (hz : Below W.heap.size W z) => setRow_any _ rs ⟨false, false, row, key⟩ z ((ST.out.R.r.keep hz).itms) (by omega))
            have HDW : Hid (Below W.heap.size W W.drew) := (Below.refl _ _).drew
            go_wp2_with fail
            go_region_law (go_simp; go_at_call 51; (with_reducible refine (HSR.out _ HDW.out).mono ?_); rintro e w4 ⟨v4, rfl, ho, hb⟩; have HO4 := hide ho; have HB4 := hide (HDW.out.trans hb); have X4 := hide (blk_own HB4.out ST.out.hb); obtain ⟨⟨C0, C1, C2, C3⟩, F0, F1, F2, F3⟩ := cells4 X4.out; obtain ⟨va4, vc4, rfl, -⟩ := own_slc ho; clear ho hb)
            all_goals
              have ST := hide (ST.out.newR HB4.out HO4.out)
              have HEQ : Hid (RB = ⟨setRowL rs ⟨false, false, row, key⟩, ps, its, sd1n⟩) := by unfold Hid; rw [HC.out]; simp [HEsd1n.out, HEsd1.out, HX.out, HXX.out, HQ.out]
              clear HSR HO4 HB4 X4 C0 C1 C2 C3 F0 F1 F2 F3 hgl hml hBW c0 c1 c2 c3 f0 f1 f2 f3 m0 m1 m2 m3
              go_wp2_with fail
              go_end0
              refine ⟨rfl, ?_, ST.out.H⟩
              rw [HEQ.out]
              exact ⟨hBg, _, _, _, ST.out.hb, by rw [HOI.out]; exact ST.out.R⟩
    | false =>
      have HAT : atZ k false = (-1 : Int) := rfl
      rw [HAT]
      clear HAT
      have hgl := ST.out.gl
      have hml := ST.out.ml
      have hBW := ST.out.hBW
      obtain ⟨⟨c0, c1, c2, c3⟩, f0, f1, f2, f3⟩ := cells4 ST.out.hb
      obtain ⟨⟨m0, m1, m2, m3⟩, -⟩ := cells4 ST.out.hm
      simp only at m0 m1 m2 m3
      have q1 := fun z : BW W => bw_cell (p := ⟨g, 3, none⟩) hgl c3 z
      have q2 := fun z : BW W => bw_cell (p := ⟨w.heap.size, 2, none⟩) hml m2 z
      have q3 := fun z : BW W => bw_cell (p := ⟨w.heap.size, 1, none⟩) hml m1 z
      have q4 := fun z : BW W => bw_cell (p := ⟨g, 0, none⟩) hgl c0 z
      go_wp2_with fail
      refine wp_region_bw (by kernel_rfl) (by kernel_rfl) ?_
      repeat (go_big_quiet_step (fail))
      refine wpQuiet_nil ?_
      rintro _ ⟨z, rfl⟩
      have ST := hide (ST.out.keep z.h)
      clear q1 q2 q3 q4
      generalize z.v = W at *
      clear hgl hml hBW c0 c1 c2 c3 f0 f1 f2 f3 m0 m1 m2 m3 z
      cases gn with
      | true =>
        have hgl := ST.out.gl
        have hml := ST.out.ml
        have hBW := ST.out.hBW
        obtain ⟨⟨c0, c1, c2, c3⟩, f0, f1, f2, f3⟩ := cells4 ST.out.hb
        obtain ⟨⟨m0, m1, m2, m3⟩, -⟩ := cells4 ST.out.hm
        simp only at m0 m1 m2 m3
        have q1 := fun z : BW W => bw_cell (p := ⟨g, 3, none⟩) hgl c3 z
        have q2 := fun z : BW W => bw_cell (p := ⟨w.heap.size, 2, none⟩) hml m2 z
        have q3 := fun z : BW W => bw_cell (p := ⟨w.heap.size, 1, none⟩) hml m1 z
        have q4 := fun z : BW W => bw_cell (p := ⟨g, 0, none⟩) hgl c0 z
        go_wp2_with fail
        refine wp_region_bw (by kernel_rfl) (by kernel_rfl) ?_
        repeat (go_big_quiet_step (fail))
        refine wpQuiet_nil ?_
        rintro _ ⟨z, rfl⟩
        have ST := hide (ST.out.keep z.h)
        clear q1 q2 q3 q4
        generalize z.v = W at *
        clear hgl hml hBW c0 c1 c2 c3 f0 f1 f2 f3 m0 m1 m2 m3 z
        have hgl := ST.out.gl
        have hml := ST.out.ml
        have hBW := ST.out.hBW
        obtain ⟨⟨c0, c1, c2, c3⟩, f0, f1, f2, f3⟩ := cells4 ST.out.hb
        obtain ⟨⟨m0, m1, m2, m3⟩, -⟩ := cells4 ST.out.hm
        simp only at m0 m1 m2 m3
        have HSR := hide (fun z (hz : Below W.heap.size W z) => setRow_any _ rs ⟨false, true, row, key⟩ z ((ST.out.R.r.keep hz).itms) (by omega))
        have HDW : Hid (Below W.heap.size W W.drew) := (Below.refl _ _).drew
        go_wp2_with fail
        go_region_law (go_simp; go_at_call 51; (with_reducible refine (HSR.out _ HDW.out).mono ?_); rintro e w4 ⟨v4, rfl, ho, hb⟩; have HO4 := hide ho; have HB4 := hide (HDW.out.trans hb); have X4 := hide (blk_own HB4.out ST.out.hb); obtain ⟨⟨C0, C1, C2, C3⟩, F0, F1, F2, F3⟩ := cells4 X4.out; obtain ⟨va4, vc4, rfl, -⟩ := own_slc ho; clear ho hb)
        all_goals
          have ST := hide (ST.out.newR HB4.out HO4.out)
          have HEQ : Hid (RB = ⟨setRowL rs ⟨false, true, row, key⟩, ps, its, sd⟩) := by unfold Hid; rw [HC.out]; simp [HQ.out]
          clear HSR HO4 HB4 X4 C0 C1 C2 C3 F0 F1 F2 F3 hgl hml hBW c0 c1 c2 c3 f0 f1 f2 f3 m0 m1 m2 m3
          go_wp2_with fail
          go_end0
          refine ⟨rfl, ?_, ST.out.H⟩
          rw [HEQ.out]
          exact ⟨hBg, _, _, _, ST.out.hb, by rw [HOI.out]; exact ST.out.R⟩
      | false =>
        have hgl := ST.out.gl
        have hml := ST.out.ml
        have hBW := ST.out.hBW
        obtain ⟨⟨c0, c1, c2, c3⟩, f0, f1, f2, f3⟩ := cells4 ST.out.hb
        obtain ⟨⟨m0, m1, m2, m3⟩, -⟩ := cells4 ST.out.hm
        simp only at m0 m1 m2 m3
        have q1 := fun z : BW W => bw_cell (p := ⟨g, 3, none⟩) hgl c3 z
        have q2 := fun z : BW W => bw_cell (p := ⟨w.heap.size, 2, none⟩) hml m2 z
        have q3 := fun z : BW W => bw_cell (p := ⟨w.heap.size, 1, none⟩) hml m1 z
        have q4 := fun z : BW W => bw_cell (p := ⟨g, 0, none⟩) hgl c0 z
        go_wp2_with fail
        refine wp_region_bw (by kernel_rfl) (by kernel_rfl) ?_
        repeat (go_big_quiet_step (fail))
        refine wpQuiet_nil ?_
        rintro _ ⟨z, rfl⟩
        have ST := hide (ST.out.keep z.h)
        clear q1 q2 q3 q4
        generalize z.v = W at *
        clear hgl hml hBW c0 c1 c2 c3 f0 f1 f2 f3 m0 m1 m2 m3 z
        have hgl := ST.out.gl
        have hml := ST.out.ml
        have hBW := ST.out.hBW
        obtain ⟨⟨c0, c1, c2, c3⟩, f0, f1, f2, f3⟩ := cells4 ST.out.hb
        obtain ⟨⟨m0, m1, m2, m3⟩, -⟩ := cells4 ST.out.hm
        simp only at m0 m1 m2 m3
        have HSm : Hid ((Value.slice sa sd.length sc).ownBlock ≠ some w.heap.size) := ST.out.M.sg
        have HSg : Hid ((Value.slice sa sd.length sc).ownBlock ≠ some g) := ST.out.R.sg
        have hgm : Hid (g ≠ w.heap.size) := ST.out.ne
        have AC : ∀ o, ((W.alloc o).drew).cell? ⟨g, 2, none⟩ = some (.slice sa sd.length sc) := fun o => (cell_alloc_drew hgl).trans c2
        have HO := hide ST.out.R.s
        go_wp2_with fail
        go_cut [] (fun wx => ∃ (ggn capn : Nat) (sdn : List RMove), sdn = sd ++ [(⟨false, false, row, key⟩ : RMove)] ∧ MvSs B g w.heap.size w wx (.slice ra rs.length rc) vi (.slice (some ⟨ggn, 0, none⟩) sdn.length capn) rs ps oi sdn ⟨false, false, row, key⟩)
        case first =>
          go_region_law (
            (refine step_append_lies _ (by rfl) _ _ _ (by rfl) B 42 i0 _ 4 24 Try.underlying37 hi hz0 hz1 hz2 rfl (by omega) (.slice sa sd.length sc) sd.length (mvCells sd) (by rfl) (by first | exact own_alloc_drew HO.out _ | exact World.ownsRow.alloc (World.ownsRow.drew HO.out) _) ⟨W.heap.size, 0, none⟩ 1 1 [.bool false, .bool false, .int .i64 row, .int .i64 key] (by rfl) (by rfl) (World.news_of_block (cs := #[.bool false, .bool false, .int .i64 row, .int .i64 key]) (by first | exact blk_drew0 (blk_alloc W _) | exact blk_alloc W.drew _)) (by simp [Value.oneCell']) (by omega) (by unfold maxLen; omega) (by omega) (by simp; omega) (W.heap.size + 1) (by simp) ?_; intro ggn capn w3 hown hgrow hat hlt; obtain ⟨⟨C0, C1, C2, C3⟩, F0, F1, F2, F3⟩ := cells4 ((hgrow.block g (by simp; omega) (fun e => HSg.out e.symm)).trans ((Below.heap_alloc W (.cells #[.bool false, .bool false, .int .i64 row, .int .i64 key] 42) g hgl).trans ST.out.hb))))
          all_goals
            obtain ⟨sdn, hsdn⟩ : ∃ s, s = sd ++ [(⟨false, false, row, key⟩ : RMove)] := ⟨_, rfl⟩
            have hlsdn : sdn.length = sd.length + 1 := by rw [hsdn]; simp
            have HN := hide (mvCells_snoc2 ⟨false, false, row, key⟩ hsdn hlsdn hown)
            have ST := hide (ST.out.stepS (H := W.heap.size + 1) (grown_trans (grown_below (below_box W (.cells #[.bool false, .bool false, .int .i64 row, .int .i64 key] 42)).drew _) hgrow) HN.out (hat.imp id (fun h => Nat.le_of_eq h.symm)) (by omega))
            have HEsdn := hide hsdn
            clear hown hgrow hat hlt AC HO HN HSm HSg hgm C0 C1 C2 C3 F0 F1 F2 F3 hsdn
            rw [← hlsdn] at ST ⊢
            clear hlsdn
            clear hgl hml hBW c0 c1 c2 c3 f0 f1 f2 f3 m0 m1 m2 m3
            go_wp2_with fail
            go_meet
            exact ⟨ggn, capn, sdn, HEsdn.out, ST.out⟩
        case rest =>
          clear AC HO HSm HSg hgm hgl hml hBW c0 c1 c2 c3 f0 f1 f2 f3 m0 m1 m2 m3
          obtain ⟨ggn, capn, sdn, hsdn, hst⟩ := hcut
          have ST := hide hst
          have hbsdn : sdn.length ≤ sd.length + 1 := by rw [hsdn]; simp
          have HEsdn := hide hsdn
          clear hsdn hst
          obtain ⟨W, hW⟩ : ∃ W, W = wc := ⟨_, rfl⟩
          rw [← hW] at ST ⊢
          clear hW
          have hgl := ST.out.gl
          have hml := ST.out.ml
          have hBW := ST.out.hBW
          obtain ⟨⟨c0, c1, c2, c3⟩, f0, f1, f2, f3⟩ := cells4 ST.out.hb
          obtain ⟨⟨m0, m1, m2, m3⟩, -⟩ := cells4 ST.out.hm
          simp only at m0 m1 m2 m3
          have HSR := hide (fun z (hz : Below W.heap.size W z) => setRow_any _ rs ⟨false, false, row, key⟩ z ((ST.out.R.r.keep hz).itms) (by omega))
          have HDW : Hid (Below W.heap.size W W.drew) := (Below.refl _ _).drew
          go_wp2_with fail
          go_region_law (go_simp; go_at_call 51; (with_reducible refine (HSR.out _ HDW.out).mono ?_); rintro e w4 ⟨v4, rfl, ho, hb⟩; have HO4 := hide ho; have HB4 := hide (HDW.out.trans hb); have X4 := hide (blk_own HB4.out ST.out.hb); obtain ⟨⟨C0, C1, C2, C3⟩, F0, F1, F2, F3⟩ := cells4 X4.out; obtain ⟨va4, vc4, rfl, -⟩ := own_slc ho; clear ho hb)
          all_goals
            have ST := hide (ST.out.newR HB4.out HO4.out)
            have HEQ : Hid (RB = ⟨setRowL rs ⟨false, false, row, key⟩, ps, its, sdn⟩) := by unfold Hid; rw [HC.out]; simp [HEsdn.out, HQ.out]
            clear HSR HO4 HB4 X4 C0 C1 C2 C3 F0 F1 F2 F3 hgl hml hBW c0 c1 c2 c3 f0 f1 f2 f3 m0 m1 m2 m3
            go_wp2_with fail
            go_end0
            refine ⟨rfl, ?_, ST.out.H⟩
            rw [HEQ.out]
            exact ⟨hBg, _, _, _, ST.out.hb, by rw [HOI.out]; exact ST.out.R⟩
  · have dq : decide (row ≤ ps) = false := decide_eq_false hq
    have HQ := hide hq
    clear hq
    have hgl := ST.out.gl
    have hml := ST.out.ml
    have hBW := ST.out.hBW
    obtain ⟨⟨c0, c1, c2, c3⟩, f0, f1, f2, f3⟩ := cells4 ST.out.hb
    obtain ⟨⟨m0, m1, m2, m3⟩, -⟩ := cells4 ST.out.hm
    simp only at m0 m1 m2 m3
    have q1 := fun z : BW W => bw_cell (p := ⟨g, 3, none⟩) hgl c3 z
    have q2 := fun z : BW W => bw_cell (p := ⟨w.heap.size, 2, none⟩) hml m2 z
    have q3 := fun z : BW W => bw_cell (p := ⟨w.heap.size, 1, none⟩) hml m1 z
    have q4 := fun z : BW W => bw_cell (p := ⟨g, 0, none⟩) hgl c0 z
    go_wp2_with fail
    refine wp_region_bw (by kernel_rfl) (by kernel_rfl) ?_
    repeat (go_big_quiet_step (fail))
    refine wpQuiet_nil ?_
    rintro _ ⟨z, rfl⟩
    have ST := hide (ST.out.keep z.h)
    clear q1 q2 q3 q4
    generalize z.v = W at *
    clear hgl hml hBW c0 c1 c2 c3 f0 f1 f2 f3 m0 m1 m2 m3 z
    cases gn with
    | true =>
      have hgl := ST.out.gl
      have hml := ST.out.ml
      have hBW := ST.out.hBW
      obtain ⟨⟨c0, c1, c2, c3⟩, f0, f1, f2, f3⟩ := cells4 ST.out.hb
      obtain ⟨⟨m0, m1, m2, m3⟩, -⟩ := cells4 ST.out.hm
      simp only at m0 m1 m2 m3
      have q1 := fun z : BW W => bw_cell (p := ⟨g, 3, none⟩) hgl c3 z
      have q2 := fun z : BW W => bw_cell (p := ⟨w.heap.size, 2, none⟩) hml m2 z
      have q3 := fun z : BW W => bw_cell (p := ⟨w.heap.size, 1, none⟩) hml m1 z
      have q4 := fun z : BW W => bw_cell (p := ⟨g, 0, none⟩) hgl c0 z
      go_wp2_with fail
      refine wp_region_bw (by kernel_rfl) (by kernel_rfl) ?_
      repeat (go_big_quiet_step (fail))
      refine wpQuiet_nil ?_
      rintro _ ⟨z, rfl⟩
      have ST := hide (ST.out.keep z.h)
      clear q1 q2 q3 q4
      generalize z.v = W at *
      clear hgl hml hBW c0 c1 c2 c3 f0 f1 f2 f3 m0 m1 m2 m3 z
      have hgl := ST.out.gl
      have hml := ST.out.ml
      have hBW := ST.out.hBW
      obtain ⟨⟨c0, c1, c2, c3⟩, f0, f1, f2, f3⟩ := cells4 ST.out.hb
      obtain ⟨⟨m0, m1, m2, m3⟩, -⟩ := cells4 ST.out.hm
      simp only at m0 m1 m2 m3
      have HSR := hide (fun z (hz : Below W.heap.size W z) => setRow_any _ rs ⟨false, true, row, key⟩ z ((ST.out.R.r.keep hz).itms) (by omega))
      have HDW : Hid (Below W.heap.size W W.drew) := (Below.refl _ _).drew
      go_wp2_with fail
      go_region_law (go_simp; go_at_call 51; (with_reducible refine (HSR.out _ HDW.out).mono ?_); rintro e w4 ⟨v4, rfl, ho, hb⟩; have HO4 := hide ho; have HB4 := hide (HDW.out.trans hb); have X4 := hide (blk_own HB4.out ST.out.hb); obtain ⟨⟨C0, C1, C2, C3⟩, F0, F1, F2, F3⟩ := cells4 X4.out; obtain ⟨va4, vc4, rfl, -⟩ := own_slc ho; clear ho hb)
      all_goals
        have ST := hide (ST.out.newR HB4.out HO4.out)
        have HEQ : Hid (RB = ⟨setRowL rs ⟨false, true, row, key⟩, ps, its, sd⟩) := by unfold Hid; rw [HC.out]; simp [(show ¬ row ≤ ps by have := HQ.out; omega)]
        clear HSR HO4 HB4 X4 C0 C1 C2 C3 F0 F1 F2 F3 hgl hml hBW c0 c1 c2 c3 f0 f1 f2 f3 m0 m1 m2 m3
        go_wp2_with fail
        go_end0
        refine ⟨rfl, ?_, ST.out.H⟩
        rw [HEQ.out]
        exact ⟨hBg, _, _, _, ST.out.hb, by rw [HOI.out]; exact ST.out.R⟩
    | false =>
      have hgl := ST.out.gl
      have hml := ST.out.ml
      have hBW := ST.out.hBW
      obtain ⟨⟨c0, c1, c2, c3⟩, f0, f1, f2, f3⟩ := cells4 ST.out.hb
      obtain ⟨⟨m0, m1, m2, m3⟩, -⟩ := cells4 ST.out.hm
      simp only at m0 m1 m2 m3
      have q1 := fun z : BW W => bw_cell (p := ⟨g, 3, none⟩) hgl c3 z
      have q2 := fun z : BW W => bw_cell (p := ⟨w.heap.size, 2, none⟩) hml m2 z
      have q3 := fun z : BW W => bw_cell (p := ⟨w.heap.size, 1, none⟩) hml m1 z
      have q4 := fun z : BW W => bw_cell (p := ⟨g, 0, none⟩) hgl c0 z
      go_wp2_with fail
      refine wp_region_bw (by kernel_rfl) (by kernel_rfl) ?_
      repeat (go_big_quiet_step (fail))
      refine wpQuiet_nil ?_
      rintro _ ⟨z, rfl⟩
      have ST := hide (ST.out.keep z.h)
      clear q1 q2 q3 q4
      generalize z.v = W at *
      clear hgl hml hBW c0 c1 c2 c3 f0 f1 f2 f3 m0 m1 m2 m3 z
      have hgl := ST.out.gl
      have hml := ST.out.ml
      have hBW := ST.out.hBW
      obtain ⟨⟨c0, c1, c2, c3⟩, f0, f1, f2, f3⟩ := cells4 ST.out.hb
      obtain ⟨⟨m0, m1, m2, m3⟩, -⟩ := cells4 ST.out.hm
      simp only at m0 m1 m2 m3
      have HSR := hide (fun z (hz : Below W.heap.size W z) => setRow_any _ rs ⟨false, false, row, key⟩ z ((ST.out.R.r.keep hz).itms) (by omega))
      have HDW : Hid (Below W.heap.size W W.drew) := (Below.refl _ _).drew
      go_wp2_with fail
      go_region_law (go_simp; go_at_call 51; (with_reducible refine (HSR.out _ HDW.out).mono ?_); rintro e w4 ⟨v4, rfl, ho, hb⟩; have HO4 := hide ho; have HB4 := hide (HDW.out.trans hb); have X4 := hide (blk_own HB4.out ST.out.hb); obtain ⟨⟨C0, C1, C2, C3⟩, F0, F1, F2, F3⟩ := cells4 X4.out; obtain ⟨va4, vc4, rfl, -⟩ := own_slc ho; clear ho hb)
      all_goals
        have ST := hide (ST.out.newR HB4.out HO4.out)
        have HEQ : Hid (RB = ⟨setRowL rs ⟨false, false, row, key⟩, ps, its, sd⟩) := by unfold Hid; rw [HC.out]; simp [(show ¬ row ≤ ps by have := HQ.out; omega)]
        clear HSR HO4 HB4 X4 C0 C1 C2 C3 F0 F1 F2 F3 hgl hml hBW c0 c1 c2 c3 f0 f1 f2 f3 m0 m1 m2 m3
        go_wp2_with fail
        go_end0
        refine ⟨rfl, ?_, ST.out.H⟩
        rw [HEQ.out]
        exact ⟨hBg, _, _, _, ST.out.hb, by rw [HOI.out]; exact ST.out.R⟩
end Go.Proofs.Ytppbmhlmbepneaa
