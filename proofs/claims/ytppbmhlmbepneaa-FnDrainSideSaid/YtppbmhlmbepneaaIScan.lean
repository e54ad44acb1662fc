/-
  The program's build: Move.valid, find, scan.
-/
import Derived.Test.YtppbmhlmbepneaaBS
import Derived.Deep.RegionHeld3
set_option linter.all false
namespace Go.Proofs.Ytppbmhlmbepneaa
open Go.RowKit
def vMoveB (m : RMove) : Bool := okI (mvItm m)
theorem vMoveB_iff (m : RMove) : vMoveB m = true ↔ vMove m := by
  unfold vMoveB okI mvItm vMove
  rw [decide_eq_true_eq]
  exact ⟨fun ⟨h1, h2⟩ => ⟨h2, h1⟩, fun ⟨h1, h2⟩ => ⟨h2, h1⟩⟩
set_option maxHeartbeats 2000000 in
theorem mvalid_any (m : RMove) (w : World) :
    Calls Try.prog 54 #[.agg #[.bool m.scan, .bool m.gone, .int .i64 m.row, .int .i64 m.key]] w fun e w' => e = .returned (.bool (vMoveB m)) ∧ Below w.heap.size w w' := by
  have HA := hide ((Below.refl w.heap.size w).alloc (Nat.le_refl _) (.cells #[.bool m.scan, .bool m.gone, .int .i64 m.row, .int .i64 m.key] 42))
  obtain ⟨x, hx⟩ : ∃ x, x = mvItm m := ⟨_, rfl⟩
  have HV := hide (fun z => ivalid_any (mvItm m) z)
  have HB : Hid (vMoveB m = okI (mvItm m)) := rfl
  clear hx
  go_enter Try.func54, Try.ntmps54
  go_wp2_with fail
  refine (HV.out _).mono ?_
  rintro e w1 ⟨rfl, hb⟩
  have H1 : Hid (Below w.heap.size w w1) := HA.out.trans (hb.mono HA.out.size)
  clear hb
  go_wp2_with fail
  go_ret
  exact ⟨ret_bool HB.out.symm, H1.out⟩
set_option maxHeartbeats 2000000 in
theorem find_any (B g : Nat) (b : BS) (n : Int) (w : World) (h : BoxI B g w b) (hv : InvB b) (hl : b.rows.length ≤ 1000) (hn0 : 0 ≤ n) (hn1 : n ≤ 100) :
    Calls Try.prog 81 #[.pointer (some ⟨g, 0, none⟩), .int .i64 n] w (BsRet w (posR b.rows n) (hasR b.rows n)) := by
  obtain ⟨-, vr, vi, vs, h1, h2⟩ := h
  obtain ⟨⟨c0, -⟩, -⟩ := cells4 h1
  have HS := hide (bsR_any vr b.rows n w h2.r.itms hv.asc hv.ok hl hn0 hn1)
  obtain ⟨a, c, rfl, -⟩ := own_slc h2.r
  clear h1 h2
  go_enter Try.func81, Try.ntmps81
  go_wp2_with fail
  refine HS.out.mono ?_
  rintro e w1 ⟨rfl, hb⟩
  have H1 := hide hb
  clear hb HS
  go_wp2_with fail
  go_ret2
  exact ⟨rfl, H1.out⟩
theorem cell_alloc_drew {W : World} {o : Obj} {b k : Nat} (h : b < W.heap.size) : ((W.alloc o).drew).cell? ⟨b, k, none⟩ = W.cell? ⟨b, k, none⟩ := World.cell?_of_block (a := ⟨b, k, none⟩) (Below.heap_alloc W o b h)
def StepRet (B g : Nat) (w : World) (r : Value) (b' : BS) (e : Ending) (w' : World) : Prop := e = .returned r ∧ BoxI B g w' b' ∧ Below B w w'
theorem scanB_none {b : BS} (h : b.rows.find? (gtR b.pos) = none) : scanB b = ⟨b.rows, 99, b.items, b.side⟩ := by unfold scanB; rw [h]
theorem scanB_some {b : BS} {x : Itm} (h : b.rows.find? (gtR b.pos) = some x) : scanB b = ⟨b.rows, x.r, b.items ++ [x], b.side⟩ := by unfold scanB; rw [h]
def scanT (b : BS) : Bool := (b.rows.find? (gtR b.pos)).isSome
set_option maxHeartbeats 16000000 in
set_option maxRecDepth 100000 in
theorem iscan_any (B g : Nat) (b : BS) (w : World) (h : BoxI B g w b) (hv : InvB b) (hl : b.rows.length ≤ 1000) (hil : b.items.length ≤ 1000) :
    Calls Try.prog 80 #[.pointer (some ⟨g, 0, none⟩)] w (StepRet B g w (.bool (scanT b)) (scanB b)) := by
  obtain ⟨i0, hi, hz0, hz1, hz2⟩ := info_parts infoI
  have HF := hide (find_any B g b (b.pos + 1) w h hv hl (by have := hv.pos; omega) (by have := hv.pos; omega))
  have HG := hide (find_gt hv.asc b.pos)
  have hp0 := hv.pos.1
  have hp1 := hv.pos.2
  have hBg := h.1
  have hgw := h.lt
  have HBX := hide h
  obtain ⟨-, vr, vi, vs, h1, h2⟩ := h
  obtain ⟨⟨c0, c1, c2, c3⟩, -⟩ := cells4 h1
  have hpl := posR_le b.rows (b.pos + 1)
  clear h1 h2 hv
  go_enter Try.func80, Try.ntmps80
  go_wp2_with fail
  refine HF.out.mono ?_
  rintro e w1 ⟨rfl, hb⟩
  have H1 := hide hb
  have HX1 := hide (HBX.out.keep hb)
  have hgw1 := HX1.out.lt
  obtain ⟨-, vr, vi, vs, h1, h2⟩ := HX1.out
  obtain ⟨⟨c0, c1, c2, c3⟩, f0, f1, f2, f3⟩ := cells4 h1
  have HB1 := hide h1
  have HR := hide h2
  obtain ⟨ra, rc, rfl, hrc, hrm⟩ := own_slc h2.r
  obtain ⟨ia, ic, rfl, hic, him⟩ := own_slc h2.i
  obtain ⟨sa, sc, rfl, hsc, hsm⟩ := own_slc h2.s
  generalize posR b.rows (b.pos + 1) = k at *
  generalize hasR b.rows (b.pos + 1) = hh at *
  clear hb h1 h2 HX1 HBX HF
  by_cases hk : k < b.rows.length
  · have hne : ¬ ((k : Int) = (b.rows.length : Int)) := by omega
    have hne' : ((k : Int) == (b.rows.length : Int)) = false := by simpa using hne
    have hne2 : ¬ (k = b.rows.length) := by omega
    obtain ⟨rb, hra, e0, e1, hrb⟩ : ∃ rb, ra = some ⟨rb, 0, none⟩ ∧ w1.cell? ⟨rb, k * 2, none⟩ = some (.int .i64 b.rows[k].k) ∧ w1.cell? ⟨rb, k * 2 + 1, none⟩ = some (.int .i64 b.rows[k].r) ∧ rb ≠ g := by
      rcases HR.out.r.2 with ⟨hq, hq2⟩ | ⟨rb, cap, cur, hq, -⟩
      · omega
      · injection hq with hq _ _
        subst hq
        obtain ⟨q0, q1⟩ := itmCells_at b.rows k hk
        exact ⟨rb, rfl, by rw [World.ownsRow.cellAt HR.out.r _ (by omega)]; exact q0, by rw [World.ownsRow.cellAt HR.out.r _ (by omega)]; exact q1, fun e => HR.out.rg (by rw [e]; rfl)⟩
    subst hra
    have hrl := lt_cell e0
    have HS : Hid (scanB b = ⟨b.rows, b.rows[k].r, b.items ++ [b.rows[k]], b.side⟩ ∧ scanT b = true) := by
      have := HG.out
      rw [List.getElem?_eq_getElem hk] at this
      exact ⟨scanB_some this, by unfold scanT; rw [this]; rfl⟩
    clear HG
    generalize b.rows[k] = x at *
    go_wp2_with fail
    have HB2 : Hid ((w1.setCell ⟨g, 1, none⟩ (.int .i64 x.r)).heap[g]? = some (.cells #[.slice (some ⟨rb, 0, none⟩) b.rows.length rc, .int .i64 x.r, .slice ia b.items.length ic, .slice sa b.side.length sc] 58 (0, 0))) := set_block HB1.out 1 (.int .i64 x.r)
    have HR2 := hide (HR.out.by (grown_setCell w1 g 1 (.int .i64 x.r)))
    have H2 : Hid (Below B w (w1.setCell ⟨g, 1, none⟩ (.int .i64 x.r))) := (H1.out.mono (by omega)).setCell (by simp; omega) _
    have E0 : (w1.setCell ⟨g, 1, none⟩ (.int .i64 x.r)).cell? ⟨rb, k * 2, none⟩ = some (.int .i64 x.k) := (World.cell?_of_block (a := ⟨rb, k * 2, none⟩) (Below.heap_setCell w1 ⟨g, 1, none⟩ _ rb (by simpa using hrb))).trans e0
    have E1 : (w1.setCell ⟨g, 1, none⟩ (.int .i64 x.r)).cell? ⟨rb, k * 2 + 1, none⟩ = some (.int .i64 x.r) := (World.cell?_of_block (a := ⟨rb, k * 2 + 1, none⟩) (Below.heap_setCell w1 ⟨g, 1, none⟩ _ rb (by simpa using hrb))).trans e1
    have hsz : w1.heap.size ≤ (w1.setCell ⟨g, 1, none⟩ (.int .i64 x.r)).heap.size := by simp [World.setCell]
    clear c0 c1 c2 c3 f0 f1 f2 f3 e0 e1
    generalize w1.setCell ⟨g, 1, none⟩ (.int .i64 x.r) = W2 at *
    obtain ⟨⟨c0, c1, c2, c3⟩, f0, f1, f2, f3⟩ := cells4 HB2.out
    have hgw2 : g < W2.heap.size := lt_block HB2.out
    have hrw2 : rb < W2.heap.size := by omega
    have hBW : B ≤ W2.heap.size := by omega
    have KI := hide (fun k (hk : (Value.slice ia b.items.length ic).ownBlock = some k) => (World.ownsRow.lt HR2.out.i k hk).1)
    have N2 := hide HR2.out.ig
    have N0 : Hid ((Value.slice ia b.items.length ic).ownBlock ≠ some rb) := fun e => HR2.out.ri rb rfl e
    have HBk : Hid (∀ o, ((W2.alloc o)).heap[g]? = W2.heap[g]?) := fun o => Below.heap_alloc W2 o g hgw2
    clear hgw1 hrl HB1 HR H1
    have AC : ∀ o, ((W2.alloc o).drew).cell? ⟨g, 2, none⟩ = some (.slice ia b.items.length ic) := fun o => (cell_alloc_drew hgw2).trans c2
    go_region_law
      ((refine step_append_lies _ (by rfl) _ _ _ (by rfl) B 29 i0 _ 2 16 Try.underlying23 hi hz0 hz1 hz2 rfl (by omega) (.slice ia b.items.length ic) b.items.length (itmCells b.items) (by rfl) (by first | exact (HR2.out.i.alloc _).drew | exact World.ownsRow.alloc (World.ownsRow.drew HR2.out.i) _)
          ⟨W2.heap.size, 0, none⟩ 1 1 [.int .i64 x.k, .int .i64 x.r] (by rfl) (by rfl) (World.news_of_block (cs := #[.int .i64 x.k, .int .i64 x.r]) (by first | exact blk_drew0 (blk_alloc W2 _) | exact blk_alloc W2.drew _)) (by simp [Value.oneCell'])
          (by omega) (by unfold maxLen; omega) (by omega) (by simp; omega) (W2.heap.size + 1) (by simp) ?_; intro gg cap3 w3 hown hgrow hat hlt; have X3 := hide ((hgrow.block g (by simp; omega) (fun e => N2.out e.symm)).trans ((HBk.out _).trans HB2.out)); obtain ⟨⟨C0, C1, C2, C3⟩, F0, F1, F2, F3⟩ := cells4 X3.out; have R0 := (hgrow.cell_far _ (by simp; omega) (Ne.symm N0.out)).trans ((cell_alloc_drew hrw2).trans E0); have R1 := (hgrow.cell_far _ (by simp; omega) (Ne.symm N0.out)).trans ((cell_alloc_drew hrw2).trans E1)))
    all_goals
      have HBL : Below W2.heap.size W2 ((W2.alloc (.cells #[.int .i64 x.k, .int .i64 x.r] 29)).drew) := (below_box W2 _).drew
      have HN : Hid (OwnI B w3 (.slice (some ⟨gg, 0, none⟩) (b.items.length + 1) cap3) (b.items ++ [x])) := by
        unfold Hid OwnI
        rw [itmCells_app, List.length_append]
        exact hown
      have R3 := hide (((HR2.out.keep HBL).setI (H := W2.heap.size + 1) (by simp; omega) hgrow HN.out (hat.imp id (fun h => Nat.le_of_eq h.symm)) (by simp)).by (grown_setCell w3 g 2 (.slice (some ⟨gg, 0, none⟩) (b.items.length + 1) cap3)))
      have H3 : Hid (Below B w w3) := ((H2.out.trans (HBL.mono hBW))).grown hgrow (by simp; omega) (fun q hq => KI.out q hq)
      have S3 := hide (set_block X3.out 2 (.slice (some ⟨gg, 0, none⟩) (b.items.length + 1) cap3))
      clear hown hgrow hat R0 R1 C0 C1 C2 C3 F0 F1 F2 F3 HBL AC c0 c1 c2 c3 f0 f1 f2 f3 E0 E1
      go_wp2_with fail
      go_ret
      refine ⟨ret_bool HS.out.2.symm, ?_, ?_⟩
      · rw [HS.out.1]
        exact ⟨hBg, _, _, _, S3.out, R3.out⟩
      · exact H3.out.setCell (by simp; omega) _
  · have hke : k = b.rows.length := by omega
    have hke' : ((k : Int) == (b.rows.length : Int)) = true := by simp [hke]
    have HS : Hid (scanB b = ⟨b.rows, 99, b.items, b.side⟩ ∧ scanT b = false) := by
      have := HG.out
      rw [List.getElem?_eq_none (by omega)] at this
      exact ⟨scanB_none this, by unfold scanT; rw [this]; rfl⟩
    have HZ := hide (set_block HB1.out 1 (.int .i64 99))
    subst hke
    clear HG
    go_wp2_with fail
    go_ret
    refine ⟨ret_bool HS.out.2.symm, ?_, ?_⟩
    · rw [HS.out.1]
      exact ⟨hBg, _, _, _, HZ.out, HR.out.by (grown_setCell _ _ _ _)⟩
    · exact ((H1.out.mono (by omega)).setCell (by simp; omega) _)
end Go.Proofs.Ytppbmhlmbepneaa
