/-
  The state of the specification's build beside the box of a move; scan of the specification.
-/
import Derived.Test.YtppbmhlmbepneaaCopyI
import Derived.Test.YtppbmhlmbepneaaWork
import Derived.Deep.RegionHeld3
import Derived.Deep.RegionLaw
set_option linter.all false
namespace Go.Proofs.Ytppbmhlmbepneaa
open Go.RowKit
/-- a build in memory, beside the box of a move -/
structure MvSs (B g mb : Nat) (w0 W : World) (vr vi vs : Value) (rs : List Itm) (ps : Int) (its : List Itm) (sd : List RMove) (m : RMove) : Prop where
  hB : B ≤ g
  hb : W.heap[g]? = some (.cells #[vr, vi, vs, .int .i64 ps] 61 (0, 0))
  hm : W.heap[mb]? = some (.cells #[.bool m.scan, .bool m.gone, .int .i64 m.row, .int .i64 m.key] 42 (0, 0))
  R : RowsB B g W vr vi vs rs its sd
  M : RowsB B mb W vr vi vs rs its sd
  ne : g ≠ mb
  H : Below B w0 W
section
variable {B g mb : Nat} {w0 W : World} {vr vi vs : Value} {rs its : List Itm} {ps : Int} {sd : List RMove} {m : RMove}
theorem MvSs.gl (h : MvSs B g mb w0 W vr vi vs rs ps its sd m) : g < W.heap.size := lt_block h.hb
theorem MvSs.ml (h : MvSs B g mb w0 W vr vi vs rs ps its sd m) : mb < W.heap.size := lt_block h.hm
theorem MvSs.hBW (h : MvSs B g mb w0 W vr vi vs rs ps its sd m) : B ≤ W.heap.size := Nat.le_of_lt (Nat.lt_of_le_of_lt h.hB h.gl)
theorem MvSs.keep {W' : World} (h : MvSs B g mb w0 W vr vi vs rs ps its sd m) (hb : Below W.heap.size W W') : MvSs B g mb w0 W' vr vi vs rs ps its sd m :=
  ⟨h.hB, blk_own hb h.hb, blk_own hb h.hm, h.R.keep hb, h.M.keep hb, h.ne, h.H.trans (hb.mono h.hBW)⟩
/-- the side has grown: W is the world before, W3 the one that the call leaves -/
theorem MvSs.stepS {gg n cap H : Nat} {W3 : World} {sd' : List RMove} (h : MvSs B g mb w0 W vr vi vs rs ps its sd m)
    (hg : W.grownBy W3 vs.ownBlock) (ho : OwnM B W3 (.slice (some ⟨gg, 0, none⟩) n cap) sd') (hat : vs.ownBlock = some gg ∨ H ≤ gg) (hH : W.heap.size ≤ H) :
    MvSs B g mb w0 (W3.setCell ⟨g, 2, none⟩ (.slice (some ⟨gg, 0, none⟩) n cap)) vr vi (.slice (some ⟨gg, 0, none⟩) n cap) rs ps its sd' m := by
  have hg3 := (hg.block g h.gl (fun e => h.R.sg e.symm)).trans h.hb
  have hm3 := (hg.block mb h.ml (fun e => h.M.sg e.symm)).trans h.hm
  have R3 := h.R.setS h.gl hg ho hat hH
  have M3 := h.M.setS h.ml hg ho hat hH
  exact ⟨h.hB, set_block hg3 2 _, blk_by (grown_setCell _ _ _ _) hm3 (fun e => h.ne e.symm), R3.by (grown_setCell _ _ _ _), M3.by2 R3 (grown_setCell _ _ _ _), h.ne,
    (h.H.grown hg h.hBW (fun k hk => (World.ownsRow.lt h.R.s k hk).1)).setCell (by have := h.hB; simp; omega) _⟩
theorem MvSs.stepR {gg n cap H : Nat} {W3 : World} {rs' : List Itm} (h : MvSs B g mb w0 W vr vi vs rs ps its sd m)
    (hg : W.grownBy W3 vr.ownBlock) (ho : OwnI B W3 (.slice (some ⟨gg, 0, none⟩) n cap) rs') (hat : vr.ownBlock = some gg ∨ H ≤ gg) (hH : W.heap.size ≤ H) :
    MvSs B g mb w0 (W3.setCell ⟨g, 0, none⟩ (.slice (some ⟨gg, 0, none⟩) n cap)) (.slice (some ⟨gg, 0, none⟩) n cap) vi vs rs' ps its sd m := by
  have hg3 := (hg.block g h.gl (fun e => h.R.rg e.symm)).trans h.hb
  have hm3 := (hg.block mb h.ml (fun e => h.M.rg e.symm)).trans h.hm
  have R3 := h.R.setR h.gl hg ho hat hH
  have M3 := h.M.setR h.ml hg ho hat hH
  exact ⟨h.hB, set_block hg3 0 _, blk_by (grown_setCell _ _ _ _) hm3 (fun e => h.ne e.symm), R3.by (grown_setCell _ _ _ _), M3.by2 R3 (grown_setCell _ _ _ _), h.ne,
    (h.H.grown hg h.hBW (fun k hk => (World.ownsRow.lt h.R.r k hk).1)).setCell (by have := h.hB; simp; omega) _⟩
theorem MvSs.start (m : RMove) (hB : B ≤ g) (hb : W.heap[g]? = some (.cells #[vr, vi, vs, .int .i64 ps] 61 (0, 0))) (R : RowsB B g W vr vi vs rs its sd) :
    MvSs B g W.heap.size W (W.alloc (.cells #[.bool m.scan, .bool m.gone, .int .i64 m.row, .int .i64 m.key] 42)) vr vi vs rs ps its sd m := by
  have hgl := lt_block hb
  have hlt : ∀ {size n : Nat} {e : TypeId} {v : Value} {xs : List Value}, W.ownsRow B e size v n xs → v.ownBlock ≠ some W.heap.size := fun h e => by have := (World.ownsRow.lt h _ e).2; omega
  exact ⟨hB, blk_keep hb _, blk_alloc W _, R.keep (below_box W _), ⟨R.r.alloc _, R.i.alloc _, R.s.alloc _, hlt R.r, hlt R.i, hlt R.s, R.ri, R.rs, R.is⟩, by omega, (below_box W _).mono (by omega)⟩
end

/-- the rows are replaced by new ones -/
theorem RowsB.newR {B g : Nat} {w w' : World} {vr vi vs v' : Value} {rs its rs' : List Itm} {sd : List RMove} (h : RowsB B g w vr vi vs rs its sd) (hgw : g < w.heap.size) (hBw : B ≤ w.heap.size) (hb : Below w.heap.size w w') (ho : OwnI w.heap.size w' v' rs') : RowsB B g w' v' vi vs rs' its sd := by
  have hn : ∀ k, v'.ownBlock = some k → w.heap.size ≤ k := fun k hk => (World.ownsRow.lt ho k hk).1
  refine ⟨own_mono ho hBw, h.i.keep hb, h.s.keep hb, fun e => by have := hn g e; omega, h.ig, h.sg, fun k hk e => ?_, fun k hk e => ?_, h.is⟩
  · have h1 := hn k hk; have h2 := (World.ownsRow.lt h.i k e).2; omega
  · have h1 := hn k hk; have h2 := (World.ownsRow.lt h.s k e).2; omega
theorem RowsB.newI {B g : Nat} {w w' : World} {vr vi vs v' : Value} {rs its its' : List Itm} {sd : List RMove} (h : RowsB B g w vr vi vs rs its sd) (hgw : g < w.heap.size) (hBw : B ≤ w.heap.size) (hb : Below w.heap.size w w') (ho : OwnI w.heap.size w' v' its') : RowsB B g w' vr v' vs rs its' sd := by
  have hn : ∀ k, v'.ownBlock = some k → w.heap.size ≤ k := fun k hk => (World.ownsRow.lt ho k hk).1
  refine ⟨h.r.keep hb, own_mono ho hBw, h.s.keep hb, h.rg, fun e => by have := hn g e; omega, h.sg, fun k hk e => ?_, h.rs, fun k hk e => ?_⟩
  · have h1 := hn k e; have h2 := (World.ownsRow.lt h.r k hk).2; omega
  · have h1 := hn k hk; have h2 := (World.ownsRow.lt h.s k e).2; omega
theorem MvSs.newR {B g mb : Nat} {w0 W W3 : World} {vr vi vs v' : Value} {rs its rs' : List Itm} {ps : Int} {sd : List RMove} {m : RMove} (h : MvSs B g mb w0 W vr vi vs rs ps its sd m) (hb : Below W.heap.size W W3) (ho : OwnI W.heap.size W3 v' rs') :
    MvSs B g mb w0 (W3.setCell ⟨g, 0, none⟩ v') v' vi vs rs' ps its sd m := by
  have hg3 := blk_own hb h.hb
  have hm3 := blk_own hb h.hm
  have R3 := h.R.newR h.gl h.hBW hb ho
  have M3 := h.M.newR h.ml h.hBW hb ho
  exact ⟨h.hB, set_block hg3 0 _, blk_by (grown_setCell _ _ _ _) hm3 (fun e => h.ne e.symm), R3.by (grown_setCell _ _ _ _), M3.by2 R3 (grown_setCell _ _ _ _), h.ne,
    (h.H.trans (hb.mono h.hBW)).setCell (by have := h.hB; simp; omega) _⟩
def StepS (B g : Nat) (w : World) (b' : BS) (e : Ending) (w' : World) : Prop := e = .returned (.tuple #[]) ∧ BoxS B g w' b' ∧ Below B w w'
theorem find_ix {l : List Itm} {p : Itm → Bool} {k : Nat} (hk : k < l.length) (h : p l[k] = true) (hn : ∀ j (hj : j < l.length), j < k → p l[j] = false) : l.find? p = some l[k] := by
  rw [List.find?_eq_some_iff_getElem]
  exact ⟨h, k, hk, rfl, fun j hj => by rw [hn j (by omega) hj]; rfl⟩
theorem find_no {l : List Itm} {p : Itm → Bool} (hn : ∀ j (hj : j < l.length), p l[j] = false) : l.find? p = none := by
  rw [List.find?_eq_none]
  intro x hx
  obtain ⟨j, hj, rfl⟩ := List.getElem_of_mem hx
  rw [hn j hj]; simp
set_option maxHeartbeats 32000000 in
set_option maxRecDepth 100000 in
theorem sscan_any (B g : Nat) (b : BS) (w : World) (h : BoxS B g w b) (hv : InvB b) :
    Calls Try.prog 60 #[.pointer (some ⟨g, 0, none⟩)] w (StepS B g w (scanB b)) := by
  have HX := hide h
  have HV := hide hv
  have HBW0 : Hid (B ≤ w.heap.size) := Nat.le_of_lt (Nat.lt_of_le_of_lt h.1 h.lt)
  clear h hv
  go_enter Try.func60, Try.ntmps60
  go_wp2_with fail
  go_loopg [2] b.rows.length (fun gk sk wr => Below w.heap.size w wr ∧ ∃ k : Nat, k + gk = b.rows.length ∧ sk = .int .i64 (k : Int) ∧ ∀ j (h : j < b.rows.length), j < k → gtR b.pos b.rows[j] = false)
  case atStart => exact ⟨Below.refl _ _, 0, by omega, rfl, fun j _ hj => by omega⟩
  case round =>
    obtain ⟨hbw, k, hk, rfl, hno⟩ := hrel
    have HXW := hide (HX.out.keep hbw)
    have HW := hide hbw
    have HNO := hide hno
    clear hno hbw
    have hgw := HXW.out.lt
    obtain ⟨hBg, vr, vi, vs, h1, h2⟩ := HXW.out
    obtain ⟨⟨c0, c1, c2, c3⟩, f0, f1, f2, f3⟩ := cells4 h1
    have HB1 := hide h1
    have HR := hide h2
    obtain ⟨ra, rc, rfl, hrc, hrm⟩ := own_slc h2.r
    obtain ⟨ia, ic, rfl, hic, him⟩ := own_slc h2.i
    clear h1 h2 HXW
    by_cases hlt : k < b.rows.length
    · obtain ⟨rb, rfl, r0, r1⟩ := row_key HR.out.r hlt
      have hrl := lt_cell r0
      have hrg : Hid (g ≠ rb) := fun e => HR.out.rg (by rw [e]; rfl)
      have g0 := fun z : BW wr => bw_cell (p := ⟨g, 0, none⟩) hgw c0 z
      have g3 := fun z : BW wr => bw_cell (p := ⟨g, 3, none⟩) hgw c3 z
      have gr := fun z : BW wr => bw_cell (p := ⟨rb, k * 2 + 1, none⟩) hrl r1 z
      by_cases hq : b.pos < b.rows[k].r
      · have dq : decide (b.pos < b.rows[k].r) = true := decide_eq_true hq
        have HE : Hid (scanB b = ⟨b.rows, b.rows[k].r, b.items ++ [b.rows[k]], b.side⟩) := scanB_some (find_ix hlt (by unfold gtR; exact dq) HNO.out)
        have HP := hide (fun y (hy : b.rows[k] = y) => putL_new HV.out (x := y) (by rw [← hy]; exact hq))
        have hitl := HV.out.itl
        have hol : (ordL b.items).length ≤ 100 := by rw [ordL_len_eq HV.out.nodup]; exact hitl
        generalize hy : b.rows[k] = y at *
        have HN : Hid (hasI (ordL b.items) y = false) := HP.out y rfl
        clear hq HP HNO hy HX HV
        go_wp2_with fail
        refine wp_region_bw (by kernel_rfl) (by kernel_rfl) ?_
        repeat (go_big_quiet_step (fail))
        refine wpQuiet_nil ?_
        rintro _ ⟨z, rfl⟩
        have H1 : Hid (Below w.heap.size w z.v) := HW.out.trans (z.h.mono HW.out.size)
        have hgw1 : g < z.v.heap.size := Nat.lt_of_lt_of_le hgw z.h.size
        have HB1 := hide (blk_own z.h HB1.out)
        have HR := hide (HR.out.keep z.h)
        obtain ⟨⟨c0, c1, c2, c3⟩, f0, f1, f2, f3⟩ := cells4 HB1.out
        have r0 := bw_cell (p := ⟨rb, k * 2, none⟩) hrl r0 z
        have r1 := gr z
        clear g0 g3 gr HW hgw hrl
        have hrl := lt_cell r0
        generalize z.v = W1 at *
        clear z
        go_wp2_with fail
        have HB2 : Hid ((W1.setCell ⟨g, 3, none⟩ (.int .i64 y.r)).heap[g]? = some (.cells #[.slice (some ⟨rb, 0, none⟩) b.rows.length rc, .slice ia (ordL b.items).length ic, vs, .int .i64 y.r] 61 (0, 0))) := set_block HB1.out 3 (.int .i64 y.r)
        have HR2 := hide (HR.out.by (grown_setCell W1 g 3 (.int .i64 y.r)))
        have E0 : (W1.setCell ⟨g, 3, none⟩ (.int .i64 y.r)).cell? ⟨rb, k * 2, none⟩ = some (.int .i64 y.k) := (World.cell?_setCell_far _ _ _ _ hrg.out).trans r0
        have E1 : (W1.setCell ⟨g, 3, none⟩ (.int .i64 y.r)).cell? ⟨rb, k * 2 + 1, none⟩ = some (.int .i64 y.r) := (World.cell?_setCell_far _ _ _ _ hrg.out).trans r1
        have H2 : Hid (w.heap.size ≤ (W1.setCell ⟨g, 3, none⟩ (.int .i64 y.r)).heap.size) := by unfold Hid; have := H1.out.size; simp [World.setCell]; exact this
        have HH2 : Hid (B ≤ w.heap.size → Below B w (W1.setCell ⟨g, 3, none⟩ (.int .i64 y.r))) := fun h => (H1.out.mono h).setCell (by simp; omega) _
        clear c0 c1 c2 c3 f0 f1 f2 f3 r0 r1 HB1 HR H1
        generalize W1.setCell ⟨g, 3, none⟩ (.int .i64 y.r) = W2 at *
        obtain ⟨⟨c0, c1, c2, c3⟩, f0, f1, f2, f3⟩ := cells4 HB2.out
        have hgw2 : g < W2.heap.size := lt_block HB2.out
        have hrl2 := lt_cell E0
        have g0 := fun z : BW W2 => bw_cell (p := ⟨g, 0, none⟩) hgw2 c0 z
        have g1 := fun z : BW W2 => bw_cell (p := ⟨g, 1, none⟩) hgw2 c1 z
        have gr0 := fun z : BW W2 => bw_cell (p := ⟨rb, k * 2, none⟩) hrl2 E0 z
        have gr1 := fun z : BW W2 => bw_cell (p := ⟨rb, k * 2 + 1, none⟩) hrl2 E1 z
        have CV : Hid (∀ z : BW W2, Calls Try.prog 79 #[.slice ia (ordL b.items).length ic, .agg #[.int .i64 y.k, .int .i64 y.r]] z.v fun e z' => e = .returned (.bool false) ∧ Below z.v.heap.size z.v z') := fun z => by
          have q := holds_any _ (ordL b.items) y z.v (HR2.out.i.keep z.h).itms
          rw [HN.out] at q; exact q
        clear c0 c1 c2 c3 f0 f1 f2 f3 hgw1 hrl
        refine wp_region_bw (by kernel_rfl) (by kernel_rfl) ?_
        repeat (go_big_quiet_step (first | (go_at_call 79; with_reducible exact bw_of (CV.out _))))
        refine wpQuiet_nil ?_
        rintro _ ⟨z, rfl⟩
        have HB3 := hide (blk_own z.h HB2.out)
        have HR3 := hide (HR2.out.keep z.h)
        have E0 := gr0 z
        have E1 := gr1 z
        have hzs := z.h.size
        have HH3 : Hid (B ≤ w.heap.size → Below B w z.v) := fun h => (HH2.out h).trans (z.h.mono (Nat.le_trans h H2.out))
        have H3 : Hid (w.heap.size ≤ z.v.heap.size) := Nat.le_trans H2.out z.h.size
        clear g0 g1 gr0 gr1 CV HB2 HR2 HH2 H2
        generalize z.v = W3 at *
        clear z hzs
        have hgw3 : g < W3.heap.size := lt_block HB3.out
        have hBw3 : B ≤ W3.heap.size := by omega
        have hrl3 : rb < W3.heap.size := lt_cell E0
        obtain ⟨⟨c0, c1, c2, c3⟩, f0, f1, f2, f3⟩ := cells4 HB3.out
        have HPT := hide (fun z (hz : Below W3.heap.size W3 z) => put_any (.slice ia (ordL b.items).length ic) (ordL b.items) y z ((HR3.out.i.keep hz).itms) (by omega))
        have HDW : Hid (Below W3.heap.size W3 W3.drew) := (Below.refl _ _).drew
        go_wp2_with fail
        go_region_law (go_simp; go_at_call 71; (with_reducible refine (HPT.out _ HDW.out).mono ?_); rintro e w4 ⟨v4, rfl, ho, hb⟩; have HO4 := hide ho; have HB4 := hide (HDW.out.trans hb); have X4 := hide (blk_own HB4.out HB3.out); obtain ⟨⟨C0, C1, C2, C3⟩, F0, F1, F2, F3⟩ := cells4 X4.out; obtain ⟨va4, vc4, rfl, -⟩ := own_slc ho; clear ho hb)
        all_goals
          have HO5 : Hid (OwnI W3.heap.size w4 (.slice va4 (putL (ordL b.items) y).length vc4) (ordL (b.items ++ [y]))) := by unfold Hid; rw [ordL_snoc]; exact HO4.out
          have HF := hide (set_block X4.out 1 (.slice va4 (putL (ordL b.items) y).length vc4))
          have HRF := hide ((HR3.out.newI hgw3 hBw3 HB4.out HO5.out).by (grown_setCell w4 g 1 (.slice va4 (putL (ordL b.items) y).length vc4)))
          have HHF : Hid (B ≤ w.heap.size → Below B w (w4.setCell ⟨g, 1, none⟩ (.slice va4 (putL (ordL b.items) y).length vc4))) := fun h => ((HH3.out h).trans (HB4.out.mono hBw3)).setCell (by simp; omega) _
          clear c0 c1 c2 c3 f0 f1 f2 f3 C0 C1 C2 C3 F0 F1 F2 F3 E0 E1
          go_wp2_with fail
          (try simp only [Exit.inBlock, Exit.then])
          refine bodyPost_ret (results_none rfl _ _ _) rfl ?_
          refine ⟨rfl, ?_, HHF.out HBW0.out⟩
          rw [HE.out]
          exact ⟨hBg, _, _, _, HF.out, HRF.out⟩
      · have dq : decide (b.pos < b.rows[k].r) = false := decide_eq_false hq
        have HN1 : Hid (∀ j (h : j < b.rows.length), j < k + 1 → gtR b.pos b.rows[j] = false) := fun j hj hjk => by
          rcases Nat.lt_or_ge j k with q | q
          · exact HNO.out j hj q
          · obtain rfl : j = k := by omega
            unfold gtR; exact dq
        clear hq
        generalize b.rows[k] = y at *
        go_wp2_with fail
        refine wp_region_bw (by kernel_rfl) (by kernel_rfl) ?_
        repeat (go_big_quiet_step (fail))
        refine wpQuiet_nil ?_
        rintro _ ⟨z, rfl⟩
        have H1 : Hid (Below w.heap.size w z.v) := HW.out.trans (z.h.mono HW.out.size)
        clear g0 g3 gr
        go_wp2_with fail
        go_roundg (gk - 1)
        case measure => omega
        case rel => exact ⟨H1.out, k + 1, by omega, by go_num, HN1.out⟩
    · have hkl : k = b.rows.length := by omega
      subst hkl
      have HE : Hid (scanB b = ⟨b.rows, 99, b.items, b.side⟩) := scanB_none (find_no (fun j hj => HNO.out j hj hj))
      have HF := hide (set_block HB1.out 3 (.int .i64 99))
      have HRF := hide (HR.out.by (grown_setCell wr g 3 (.int .i64 99)))
      have HHF : Hid (B ≤ w.heap.size → Below B w (wr.setCell ⟨g, 3, none⟩ (.int .i64 99))) := fun h => (HW.out.mono h).setCell (by simp; omega) _
      have hgs := HX.out.lt
      go_wp2_with fail
      go_end0
      refine ⟨rfl, ?_, HHF.out HBW0.out⟩
      rw [HE.out]
      exact ⟨hBg, _, _, _, HF.out, HRF.out⟩
end Go.Proofs.Ytppbmhlmbepneaa
