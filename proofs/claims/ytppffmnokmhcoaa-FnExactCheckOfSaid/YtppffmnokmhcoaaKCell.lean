/-
  Cell: its record, its rows, and the laws' helpers at it.
-/
import Derived.Test.YtppffmnokmhcoaaKBase
import Derived.Test.YtppffmnokmhcoaaRows
import Derived.Deep.LoopGhost
import Derived.OwnWalk
import Derived.Deep.AppendLies
import Derived.Laws.OwnMore
set_option linter.all false
namespace Go.Proofs.Ytppffmnokmhcoaa
open Go.RowKit
structure RCell where
  num : Int
  lsn : Int
def CellAt (w : World) (b o : Nat) (e : RCell) : Prop := w.cell? ⟨b, o, none⟩ = some (.int .i64 e.num) ∧ w.cell? ⟨b, o + 1, none⟩ = some (.int .i64 e.lsn)
/-- a row that can be read -/
def Cells (w : World) (v : Value) (l : List RCell) : Prop :=
  ∃ a cap, v = .slice a l.length cap ∧ l.length ≤ cap ∧ cap ≤ 9223372036854775807 ∧ (l = [] ∨ ∃ b off, a = some ⟨b, off, none⟩ ∧ b < w.heap.size ∧ ∀ i (h : i < l.length), CellAt w b (off + i * 2) l[i])
theorem CellAt.first {w : World} {b o : Nat} {e : RCell} (h : CellAt w b o e) : b < w.heap.size := lt_cell h.1
theorem CellAt.keep {w w' : World} {b o : Nat} {e : RCell} (h : CellAt w b o e) (hb : Below w.heap.size w w') : CellAt w' b o e := by
  have hlt : b < w.heap.size := h.first
  obtain ⟨h0, h1⟩ := h
  exact ⟨(hb.cell (p := ⟨b, o, none⟩) hlt).trans h0, (hb.cell (p := ⟨b, o + 1, none⟩) hlt).trans h1⟩
theorem Cells.keep {w w' : World} {v : Value} {l : List RCell} (h : Cells w v l) (hb : Below w.heap.size w w') : Cells w' v l := by
  obtain ⟨a, cap, hv, h1, h2, h3⟩ := h
  refine ⟨a, cap, hv, h1, h2, ?_⟩
  rcases h3 with h3 | ⟨b, off, e, hlt, hc⟩
  · exact .inl h3
  · exact .inr ⟨b, off, e, Nat.lt_of_lt_of_le hlt hb.size, fun i hi => (hc i hi).keep hb⟩
set_option maxHeartbeats 2000000 in
theorem szCellS_any (v : Value) (l : List RCell) (left : Int) (w : World) (h : Cells w v l) (h0 : 0 ≤ left) (h1 : left ≤ 1048576) :
    Calls Try.prog 5 #[v, .int .i64 left] w (SzRet w left l.length) := by
  obtain ⟨a, cap, rfl, hl, hcap, hd⟩ := h
  by_cases c1 : left - (l.length : Int) < 0
  · go_enter Try.func5, Try.ntmps5
    go_wp2_with fail
    go_ret
    exact ⟨-1, rfl, by omega, by omega, .inl (by omega), Below.refl _ _⟩
  · go_enter Try.func5, Try.ntmps5
    go_wp2_with fail
    go_ret
    exact ⟨_, rfl, by omega, by omega, .inr (by omega), Below.refl _ _⟩
set_option maxHeartbeats 1000000 in
theorem toCell_any (e : RCell) (w : World) :
    Calls Try.prog 25 #[.agg #[.int .i64 e.num, .int .i64 e.lsn]] w fun e' w' => e' = .returned (.agg #[.int .i64 e.num, .int .i64 e.lsn]) ∧ Below w.heap.size w w' := by
  go_enter Try.func25, Try.ntmps25
  go_wp2_with fail
  all_goals go_tidy
  refine ⟨rfl, .agg #[.int .i64 e.num, .int .i64 e.lsn], by simp [results, Try.results25, go_sem], rfl, ?_⟩
  repeat (first | (with_reducible exact Below.refl _ _) | (with_reducible refine Below.setCell ?_ (by simp) _) | (with_reducible refine Below.alloc ?_ (by simp <;> omega) _))
theorem infoCell : (Try.prog.info? 45).map (fun i => (i.zero, i.size, i.bytes)) = some (some (.agg #[.int .i64 0, .int .i64 0]), 2, 16) := by kernel_rfl
/-- the first k records of l lie in the cells -/
def ArrCell (cs : Array Value) (l : List RCell) (k : Nat) : Prop := ∀ j (hj : j < k) (hl : j < l.length), cs[j * 2]? = some (.int .i64 l[j].num) ∧ cs[j * 2 + 1]? = some (.int .i64 l[j].lsn)
theorem ArrCell.step {cs : Array Value} {l : List RCell} {k : Nat} (h : ArrCell cs l k) (hk : k < l.length) (hs : l.length * 2 ≤ cs.size) :
    ArrCell ((cs.setIfInBounds (k * 2) (.int .i64 l[k].num)).setIfInBounds (k * 2 + 1) (.int .i64 l[k].lsn)) l (k + 1) := by
  intro j hj hl
  by_cases hjk : j = k
  · subst hjk
    refine ⟨?_, ?_⟩
    · rw [Array.getElem?_setIfInBounds_ne (by omega), Array.getElem?_setIfInBounds_self_of_lt (by omega)]
    · rw [Array.getElem?_setIfInBounds_self_of_lt (by simp; omega)]
  · obtain ⟨h0, h1⟩ := h j (by omega) hl
    refine ⟨?_, ?_⟩
    · rw [Array.getElem?_setIfInBounds_ne (by omega), Array.getElem?_setIfInBounds_ne (by omega)]; exact h0
    · rw [Array.getElem?_setIfInBounds_ne (by omega), Array.getElem?_setIfInBounds_ne (by omega)]; exact h1
theorem Cells.block {w : World} {g : Nat} {cs : Array Value} {t : TypeId} {l : List RCell} {cap : Nat} (h : w.heap[g]? = some (.cells cs t (0, 0))) (ha : ArrCell cs l l.length) (hl : l.length ≤ cap) (hc : cap ≤ 9223372036854775807) :
    Cells w (.slice (some ⟨g, 0, none⟩) l.length cap) l :=
  ⟨_, cap, rfl, hl, hc, .inr ⟨g, 0, rfl, lt_block h, fun i hi => by
    obtain ⟨h0, h1⟩ := ha i hi hi
    exact ⟨by rw [cell_block h, Nat.zero_add]; exact h0, by rw [cell_block h, Nat.zero_add]; exact h1⟩⟩⟩
/-- the row of a copy: its block is new and whole -/
def NewCell (w w' : World) (v : Value) (l : List RCell) : Prop := ∃ g cap cs, v = .slice (some ⟨g, 0, none⟩) l.length cap ∧ w.heap.size ≤ g ∧ w'.heap[g]? = some (.cells cs 45 (0, 0)) ∧ l.length * 2 ≤ cs.size ∧ l.length ≤ cap ∧ cap ≤ 9223372036854775807
set_option maxHeartbeats 4000000 in
theorem toCellS_any (v : Value) (l : List RCell) (w : World) (h : Cells w v l) (hn : l.length ≤ 1048576) :
    Calls Try.prog 8 #[v] w fun e w' => ∃ v', e = .returned v' ∧ Cells w' v' l ∧ Below w.heap.size w w' ∧ NewCell w w' v' l := by
  obtain ⟨a, cap, rfl, hl, hcap, hd⟩ := h
  obtain ⟨i0, hi, hz0, hz1, hz2⟩ := info_parts infoCell
  obtain ⟨cs0, hcs0, hmk⟩ : ∃ cs0 : Array Value, cs0.size = l.length * 2 ∧ ∀ W : World, (Instr.makeSlice 30 (.int .i64 (l.length : Int)) (.int .i64 (l.length : Int))).run Try.prog W = .ok (.slice (some ⟨W.heap.size, 0, none⟩) l.length l.length) (W.alloc (.cells cs0 45)) :=
    ⟨madeCells (Value.cells (.agg #[.int .i64 0, .int .i64 0])) (l.length * i0.size), by rw [size_madeCells, hz1], fun W => run_make_rowN _ _ i0 _ Try.underlying30 hi hz0 .i64 .i64 l.length l.length (Nat.le_refl _) (by rw [hz2]; omega) (by omega) W⟩
  have HC0 := hide hcs0
  clear hcs0 hi hz0 hz1 hz2
  go_enter Try.func8, Try.ntmps8
  go_wp2_with fail
  clear hmk
  go_loopg [4] l.length (fun gk s4 wr => Below w.heap.size w wr ∧ ∃ (k : Nat) (cs : Array Value), k + gk = l.length ∧ s4 = .int .i64 (k : Int) ∧ cs.size = l.length * 2 ∧ wr.heap[w.heap.size]? = some (.cells cs 45 (0, 0)) ∧ ArrCell cs l k)
  case atStart => exact ⟨(Below.refl _ _).alloc (Nat.le_refl _) _, 0, cs0, by omega, rfl, HC0.out, blk_alloc w _, fun j hj => by omega⟩
  case round =>
    obtain ⟨hbw, k, cs, hk, rfl, hsz, hblk, harr⟩ := hrel
    have HW := hide hbw
    have HB := hide hblk
    have HA := hide harr
    have HZ := hide hsz
    clear hblk harr hsz HC0
    by_cases hlt : k < l.length
    · obtain ⟨b, off, rfl, hbb, hcell⟩ := hd.resolve_left (by rintro rfl; simp at hlt)
      obtain ⟨e0, e1⟩ := (hcell k hlt).keep hbw
      have HA' := hide (HA.out.step hlt (by rw [HZ.out]; omega))
      clear hcell hd hbw HA
      generalize l[k] = e at *
      go_wp2_with fail
      refine (toCell_any e _).mono ?_
      rintro e' w1 ⟨rfl, hb1⟩
      have B1 := hide (blk_own hb1 HB.out)
      have H1 : Hid (Below w.heap.size w w1) := HW.out.trans (hb1.mono HW.out.size)
      clear hb1
      obtain ⟨u0, x0⟩ : ∃ u, w1.cell? ⟨w.heap.size, k * 2, none⟩ = some u := ⟨_, by rw [cell_block B1.out]; exact Array.getElem?_eq_getElem (by rw [HZ.out]; omega)⟩
      have f0 := froz_block B1.out (k * 2)
      obtain ⟨u1, x1⟩ : ∃ u, w1.cell? ⟨w.heap.size, k * 2 + 1, none⟩ = some u := ⟨_, by rw [cell_block B1.out]; exact Array.getElem?_eq_getElem (by rw [HZ.out]; omega)⟩
      have f1 := froz_block B1.out (k * 2 + 1)
      go_wp2_with fail
      go_roundg (gk - 1)
      case measure => omega
      case rel => exact ⟨(H1.out.setCell (by simp) _).setCell (by simp) _, k + 1, _, by omega, by go_num, by simp [HZ.out], set_block (set_block B1.out _ _) _ _, HA'.out⟩
    · have hkl : k = l.length := by omega
      subst hkl
      have HV := hide (Cells.block HB.out HA.out (Nat.le_refl _) (by omega))
      clear hd hbw
      go_wp2_with fail
      go_ret
      exact ⟨_, rfl, HV.out, HW.out, _, _, cs, rfl, Nat.le_refl _, HB.out, by rw [HZ.out]; exact Nat.le_refl _, Nat.le_refl _, by omega⟩
set_option maxHeartbeats 2000000 in
theorem eqCell_same (e : RCell) (w : World) :
    Calls Try.prog 30 #[.agg #[.int .i64 e.num, .int .i64 e.lsn], .agg #[.int .i64 e.num, .int .i64 e.lsn]] w fun x w' => x = .returned (.bool true) ∧ Below w.heap.size w w' := by
  go_enter Try.func30, Try.ntmps30
  go_wp2_with fail
  go_ret
  exact ⟨rfl, ((Below.refl _ _).alloc (Nat.le_refl _) _).alloc (by simp) _⟩
set_option maxHeartbeats 4000000 in
theorem eqCellS_same (v v' : Value) (l : List RCell) (w : World) (h : Cells w v l) (h' : Cells w v' l) :
    Calls Try.prog 12 #[v, v'] w fun x w' => x = .returned (.bool true) ∧ Below w.heap.size w w' := by
  obtain ⟨a, cap, rfl, hl, hcap, hd⟩ := h
  obtain ⟨a', cap', rfl, hl', hcap', hd'⟩ := h'
  go_enter Try.func12, Try.ntmps12
  go_wp2_with fail
  go_loopg [5] l.length (fun gk s5 wr => Below w.heap.size w wr ∧ ∃ k : Nat, k + gk = l.length ∧ s5 = .int .i64 (k : Int))
  case atStart => exact ⟨Below.refl _ _, 0, by omega, rfl⟩
  case round =>
    obtain ⟨hbw, k, hk, rfl⟩ := hrel
    have HW := hide hbw
    by_cases hlt : k < l.length
    · obtain ⟨b, off, rfl, hbb, hcell⟩ := hd.resolve_left (by rintro rfl; simp at hlt)
      obtain ⟨b', off', rfl, hbb', hcell'⟩ := hd'.resolve_left (by rintro rfl; simp at hlt)
      obtain ⟨E0, E1⟩ := (hcell k hlt).keep hbw
      obtain ⟨G0, G1⟩ := (hcell' k hlt).keep hbw
      have lb := Nat.lt_of_lt_of_le hbb hbw.size
      have lb' := Nat.lt_of_lt_of_le hbb' hbw.size
      have e0 := fun z : BW wr => bw_cell (p := ⟨b, off + k * 2, none⟩) lb E0 z
      have f0 := fun z : BW wr => bw_cell (p := ⟨b', off' + k * 2, none⟩) lb' G0 z
      have e1 := fun z : BW wr => bw_cell (p := ⟨b, off + k * 2 + 1, none⟩) lb E1 z
      have f1 := fun z : BW wr => bw_cell (p := ⟨b', off' + k * 2 + 1, none⟩) lb' G1 z
      clear hcell hd hcell' hd' hbw lb lb' hbb hbb' E0 G0 E1 G1
      generalize l[k] = e at *
      go_wp2_with fail
      refine wp_region_bw (by kernel_rfl) (by kernel_rfl) ?_
      repeat (go_big_quiet_step (first | (go_at_call 30; with_reducible exact bw_of (eqCell_same e _))))
      refine wpQuiet_nil ?_
      rintro _ ⟨z, rfl⟩
      have H1 : Hid (Below w.heap.size w z.v) := HW.out.trans (z.h.mono HW.out.size)
      go_wp2_with fail
      go_roundg (gk - 1)
      case measure => omega
      case rel => exact ⟨H1.out, k + 1, by omega, by go_num⟩
    · clear hd hd' hbw
      go_wp2_with fail
      go_ret
      exact ⟨rfl, HW.out⟩

set_option maxHeartbeats 8000000 in
theorem markCellS_any (g n cap m : Nat) (cs : Array Value) (w : World) (hb : w.heap[g]? = some (.cells cs 45 (0, 0))) (hs : n * 2 ≤ cs.size) (hn : n ≤ cap) (hc : cap ≤ 9223372036854775807) (h0 : 1 ≤ m) (h1 : m + 2 * n ≤ 9000000) :
    Calls Try.prog 14 #[.slice (some ⟨g, 0, none⟩) n cap, .int .i64 (m : Int)] w fun e w' => e = .returned (.int .i64 ((m + 2 * n : Nat) : Int)) ∧ w.grownBy w' (some g) := by
  have HG := hide hb
  clear hb
  go_enter Try.func14, Try.ntmps14
  go_wp2_with fail
  go_loopg [1, 5] n (fun gk s1 s5 wr => w.grownBy wr (some g) ∧ ∃ (k p : Nat) (cr : Array Value), k + gk = n ∧ Hid (p = m + 2 * k) ∧ s1 = .int .i64 (p : Int) ∧ s5 = .int .i64 (k : Int) ∧ cr.size = cs.size ∧ wr.heap[g]? = some (.cells cr 45 (0, 0)))
  case atStart => exact ⟨grown_below (Below.refl _ _) _, 0, m, cs, by omega, hide (by omega), rfl, rfl, rfl, HG.out⟩
  case round =>
    obtain ⟨hgw, k, p, cr, hk, hp, rfl, rfl, hsz, hblk⟩ := hrel
    have HW := hide hgw
    have HB := hide hblk
    have hgr : g < wr.heap.size := lt_block hblk
    clear hgw hblk
    by_cases hlt : k < n
    · have hp1 : 1 ≤ p := by have := hp.out; omega
      have hp2 : p ≤ 8999998 := by have := hp.out; omega
      obtain ⟨u0, x0⟩ : ∃ u, wr.cell? ⟨g, k * 2, none⟩ = some u := ⟨_, by rw [cell_block HB.out]; exact Array.getElem?_eq_getElem (by omega)⟩
      have f0 := froz_block HB.out (k * 2)
      obtain ⟨u1, x1⟩ : ∃ u, wr.cell? ⟨g, k * 2 + 1, none⟩ = some u := ⟨_, by rw [cell_block HB.out]; exact Array.getElem?_eq_getElem (by omega)⟩
      have f1 := froz_block HB.out (k * 2 + 1)
      go_wp2_with fail
      go_roundg (gk - 1)
      case measure => omega
      case rel => exact ⟨grown_trans (grown_trans (HW.out) (grown_setCell _ _ _ _)) (grown_setCell _ _ _ _), k + 1, p + 2, _, by omega, hide (by have := hp.out; omega), by go_num, by go_num, by simp [hsz], set_block (set_block HB.out _ _) _ _⟩
    · have HE : Hid (k = n) := hide (by omega)
      go_wp2_with fail
      go_ret
      have hkl := HE.out
      subst hkl
      exact ⟨by rw [hp.out]; rfl, HW.out⟩

end Go.Proofs.Ytppffmnokmhcoaa
