/-
  Move: its record, its rows, and the laws' helpers at it.
-/
import Derived.Test.YtfidhndojkopaaaItemOrd
import Derived.Test.YtfidhndojkopaaaRows
import Derived.Deep.LoopGhost
import Derived.OwnWalk
import Derived.Deep.AppendLies
import Derived.Laws.OwnMore
set_option linter.all false
namespace Go.Proofs.Ytfidhndojkopaaa
open Go.RowKit
structure RMove where
  scan : Bool
  gone : Bool
  row : Int
  key : Int
def MoveAt (w : World) (b o : Nat) (e : RMove) : Prop := w.cell? ⟨b, o, none⟩ = some (.bool e.scan) ∧ w.cell? ⟨b, o + 1, none⟩ = some (.bool e.gone) ∧ w.cell? ⟨b, o + 2, none⟩ = some (.int .i64 e.row) ∧ w.cell? ⟨b, o + 3, none⟩ = some (.int .i64 e.key)
/-- a row that can be read -/
def Moves (w : World) (v : Value) (l : List RMove) : Prop :=
  ∃ a cap, v = .slice a l.length cap ∧ l.length ≤ cap ∧ cap ≤ 9223372036854775807 ∧ (l = [] ∨ ∃ b off, a = some ⟨b, off, none⟩ ∧ b < w.heap.size ∧ ∀ i (h : i < l.length), MoveAt w b (off + i * 4) l[i])
theorem MoveAt.first {w : World} {b o : Nat} {e : RMove} (h : MoveAt w b o e) : b < w.heap.size := lt_cell h.1
theorem MoveAt.keep {w w' : World} {b o : Nat} {e : RMove} (h : MoveAt w b o e) (hb : Below w.heap.size w w') : MoveAt w' b o e := by
  have hlt : b < w.heap.size := h.first
  obtain ⟨h0, h1, h2, h3⟩ := h
  exact ⟨(hb.cell (p := ⟨b, o, none⟩) hlt).trans h0, (hb.cell (p := ⟨b, o + 1, none⟩) hlt).trans h1, (hb.cell (p := ⟨b, o + 2, none⟩) hlt).trans h2, (hb.cell (p := ⟨b, o + 3, none⟩) hlt).trans h3⟩
theorem Moves.keep {w w' : World} {v : Value} {l : List RMove} (h : Moves w v l) (hb : Below w.heap.size w w') : Moves w' v l := by
  obtain ⟨a, cap, hv, h1, h2, h3⟩ := h
  refine ⟨a, cap, hv, h1, h2, ?_⟩
  rcases h3 with h3 | ⟨b, off, e, hlt, hc⟩
  · exact .inl h3
  · exact .inr ⟨b, off, e, Nat.lt_of_lt_of_le hlt hb.size, fun i hi => (hc i hi).keep hb⟩
set_option maxHeartbeats 2000000 in
theorem szMoveS_any (v : Value) (l : List RMove) (left : Int) (w : World) (h : Moves w v l) (h0 : 0 ≤ left) (h1 : left ≤ 1048576) :
    Calls Try.prog 17 #[v, .int .i64 left] w (SzRet w left l.length) := by
  obtain ⟨a, cap, rfl, hl, hcap, hd⟩ := h
  by_cases c1 : left - (l.length : Int) < 0
  · go_enter Try.func17, Try.ntmps17
    go_wp2_with fail
    go_ret
    exact ⟨-1, rfl, by omega, by omega, .inl (by omega), Below.refl _ _⟩
  · go_enter Try.func17, Try.ntmps17
    go_wp2_with fail
    go_ret
    exact ⟨_, rfl, by omega, by omega, .inr (by omega), Below.refl _ _⟩
set_option maxHeartbeats 1000000 in
theorem toMove_any (e : RMove) (w : World) :
    Calls Try.prog 42 #[.agg #[.bool e.scan, .bool e.gone, .int .i64 e.row, .int .i64 e.key]] w fun e' w' => e' = .returned (.agg #[.bool e.scan, .bool e.gone, .int .i64 e.row, .int .i64 e.key]) ∧ Below w.heap.size w w' := by
  go_enter Try.func42, Try.ntmps42
  go_wp2_with fail
  all_goals go_tidy
  refine ⟨rfl, .agg #[.bool e.scan, .bool e.gone, .int .i64 e.row, .int .i64 e.key], by simp [results, Try.results42, go_sem], rfl, ?_⟩
  repeat (first | (with_reducible exact Below.refl _ _) | (with_reducible refine Below.setCell ?_ (by simp) _) | (with_reducible refine Below.alloc ?_ (by simp <;> omega) _))
theorem infoMove : (Try.prog.info? 48).map (fun i => (i.zero, i.size, i.bytes)) = some (some (.agg #[.bool false, .bool false, .int .i64 0, .int .i64 0]), 4, 24) := by kernel_rfl
/-- the first k records of l lie in the cells -/
def ArrMove (cs : Array Value) (l : List RMove) (k : Nat) : Prop := ∀ j (hj : j < k) (hl : j < l.length), cs[j * 4]? = some (.bool l[j].scan) ∧ cs[j * 4 + 1]? = some (.bool l[j].gone) ∧ cs[j * 4 + 2]? = some (.int .i64 l[j].row) ∧ cs[j * 4 + 3]? = some (.int .i64 l[j].key)
theorem ArrMove.step {cs : Array Value} {l : List RMove} {k : Nat} (h : ArrMove cs l k) (hk : k < l.length) (hs : l.length * 4 ≤ cs.size) :
    ArrMove ((((cs.setIfInBounds (k * 4) (.bool l[k].scan)).setIfInBounds (k * 4 + 1) (.bool l[k].gone)).setIfInBounds (k * 4 + 2) (.int .i64 l[k].row)).setIfInBounds (k * 4 + 3) (.int .i64 l[k].key)) l (k + 1) := by
  intro j hj hl
  by_cases hjk : j = k
  · subst hjk
    refine ⟨?_, ?_, ?_, ?_⟩
    · rw [Array.getElem?_setIfInBounds_ne (by omega), Array.getElem?_setIfInBounds_ne (by omega), Array.getElem?_setIfInBounds_ne (by omega), Array.getElem?_setIfInBounds_self_of_lt (by omega)]
    · rw [Array.getElem?_setIfInBounds_ne (by omega), Array.getElem?_setIfInBounds_ne (by omega), Array.getElem?_setIfInBounds_self_of_lt (by simp; omega)]
    · rw [Array.getElem?_setIfInBounds_ne (by omega), Array.getElem?_setIfInBounds_self_of_lt (by simp; omega)]
    · rw [Array.getElem?_setIfInBounds_self_of_lt (by simp; omega)]
  · obtain ⟨h0, h1, h2, h3⟩ := h j (by omega) hl
    refine ⟨?_, ?_, ?_, ?_⟩
    · rw [Array.getElem?_setIfInBounds_ne (by omega), Array.getElem?_setIfInBounds_ne (by omega), Array.getElem?_setIfInBounds_ne (by omega), Array.getElem?_setIfInBounds_ne (by omega)]; exact h0
    · rw [Array.getElem?_setIfInBounds_ne (by omega), Array.getElem?_setIfInBounds_ne (by omega), Array.getElem?_setIfInBounds_ne (by omega), Array.getElem?_setIfInBounds_ne (by omega)]; exact h1
    · rw [Array.getElem?_setIfInBounds_ne (by omega), Array.getElem?_setIfInBounds_ne (by omega), Array.getElem?_setIfInBounds_ne (by omega), Array.getElem?_setIfInBounds_ne (by omega)]; exact h2
    · rw [Array.getElem?_setIfInBounds_ne (by omega), Array.getElem?_setIfInBounds_ne (by omega), Array.getElem?_setIfInBounds_ne (by omega), Array.getElem?_setIfInBounds_ne (by omega)]; exact h3
theorem Moves.block {w : World} {g : Nat} {cs : Array Value} {t : TypeId} {l : List RMove} {cap : Nat} (h : w.heap[g]? = some (.cells cs t (0, 0))) (ha : ArrMove cs l l.length) (hl : l.length ≤ cap) (hc : cap ≤ 9223372036854775807) :
    Moves w (.slice (some ⟨g, 0, none⟩) l.length cap) l :=
  ⟨_, cap, rfl, hl, hc, .inr ⟨g, 0, rfl, lt_block h, fun i hi => by
    obtain ⟨h0, h1, h2, h3⟩ := ha i hi hi
    exact ⟨by rw [cell_block h, Nat.zero_add]; exact h0, by rw [cell_block h, Nat.zero_add]; exact h1, by rw [cell_block h, Nat.zero_add]; exact h2, by rw [cell_block h, Nat.zero_add]; exact h3⟩⟩⟩
/-- the row of a copy: its block is new and whole -/
def NewMove (w w' : World) (v : Value) (l : List RMove) : Prop := ∃ g cap cs, v = .slice (some ⟨g, 0, none⟩) l.length cap ∧ w.heap.size ≤ g ∧ w'.heap[g]? = some (.cells cs 48 (0, 0)) ∧ l.length * 4 ≤ cs.size ∧ l.length ≤ cap ∧ cap ≤ 9223372036854775807
set_option maxHeartbeats 4000000 in
theorem toMoveS_any (v : Value) (l : List RMove) (w : World) (h : Moves w v l) (hn : l.length ≤ 1048576) :
    Calls Try.prog 19 #[v] w fun e w' => ∃ v', e = .returned v' ∧ Moves w' v' l ∧ Below w.heap.size w w' ∧ NewMove w w' v' l := by
  obtain ⟨a, cap, rfl, hl, hcap, hd⟩ := h
  obtain ⟨i0, hi, hz0, hz1, hz2⟩ := info_parts infoMove
  obtain ⟨cs0, hcs0, hmk⟩ : ∃ cs0 : Array Value, cs0.size = l.length * 4 ∧ ∀ W : World, (Instr.makeSlice 33 (.int .i64 (l.length : Int)) (.int .i64 (l.length : Int))).run Try.prog W = .ok (.slice (some ⟨W.heap.size, 0, none⟩) l.length l.length) (W.alloc (.cells cs0 48)) :=
    ⟨madeCells (Value.cells (.agg #[.bool false, .bool false, .int .i64 0, .int .i64 0])) (l.length * i0.size), by rw [size_madeCells, hz1], fun W => run_make_rowN _ _ i0 _ Try.underlying33 hi hz0 .i64 .i64 l.length l.length (Nat.le_refl _) (by rw [hz2]; omega) (by omega) W⟩
  have HC0 := hide hcs0
  clear hcs0 hi hz0 hz1 hz2
  go_enter Try.func19, Try.ntmps19
  go_wp2_with fail
  clear hmk
  go_loopg [4] l.length (fun gk s4 wr => Below w.heap.size w wr ∧ ∃ (k : Nat) (cs : Array Value), k + gk = l.length ∧ s4 = .int .i64 (k : Int) ∧ cs.size = l.length * 4 ∧ wr.heap[w.heap.size]? = some (.cells cs 48 (0, 0)) ∧ ArrMove cs l k)
  case atStart => exact ⟨(Below.refl _ _).alloc (Nat.le_refl _) _, 0, cs0, by omega, rfl, HC0.out, blk_alloc w _, fun j hj => by omega⟩
  case round =>
    obtain ⟨hbw, k, cs, hk, rfl, hsz, hblk, harr⟩ := hrel
    have HW := hide hbw
    have HB := hide hblk
    have HA := hide harr
    have HZ := hide hsz
    clear hblk harr hsz HC0
    by_cases hlt : k < l.length
    · obtain ⟨b, off, rfl, hbb, hcell⟩ := hd.resolve_left (by rintro rfl; simp at hlt)
      obtain ⟨e0, e1, e2, e3⟩ := (hcell k hlt).keep hbw
      have HA' := hide (HA.out.step hlt (by rw [HZ.out]; omega))
      clear hcell hd hbw HA
      generalize l[k] = e at *
      go_wp2_with fail
      refine (toMove_any e _).mono ?_
      rintro e' w1 ⟨rfl, hb1⟩
      have B1 := hide (blk_own hb1 HB.out)
      have H1 : Hid (Below w.heap.size w w1) := HW.out.trans (hb1.mono HW.out.size)
      clear hb1
      obtain ⟨u0, x0⟩ : ∃ u, w1.cell? ⟨w.heap.size, k * 4, none⟩ = some u := ⟨_, by rw [cell_block B1.out]; exact Array.getElem?_eq_getElem (by rw [HZ.out]; omega)⟩
      have f0 := froz_block B1.out (k * 4)
      obtain ⟨u1, x1⟩ : ∃ u, w1.cell? ⟨w.heap.size, k * 4 + 1, none⟩ = some u := ⟨_, by rw [cell_block B1.out]; exact Array.getElem?_eq_getElem (by rw [HZ.out]; omega)⟩
      have f1 := froz_block B1.out (k * 4 + 1)
      obtain ⟨u2, x2⟩ : ∃ u, w1.cell? ⟨w.heap.size, k * 4 + 2, none⟩ = some u := ⟨_, by rw [cell_block B1.out]; exact Array.getElem?_eq_getElem (by rw [HZ.out]; omega)⟩
      have f2 := froz_block B1.out (k * 4 + 2)
      obtain ⟨u3, x3⟩ : ∃ u, w1.cell? ⟨w.heap.size, k * 4 + 3, none⟩ = some u := ⟨_, by rw [cell_block B1.out]; exact Array.getElem?_eq_getElem (by rw [HZ.out]; omega)⟩
      have f3 := froz_block B1.out (k * 4 + 3)
      go_wp2_with fail
      go_roundg (gk - 1)
      case measure => omega
      case rel => exact ⟨(((H1.out.setCell (by simp) _).setCell (by simp) _).setCell (by simp) _).setCell (by simp) _, k + 1, _, by omega, by go_num, by simp [HZ.out], set_block (set_block (set_block (set_block B1.out _ _) _ _) _ _) _ _, HA'.out⟩
    · have hkl : k = l.length := by omega
      subst hkl
      have HV := hide (Moves.block HB.out HA.out (Nat.le_refl _) (by omega))
      clear hd hbw
      go_wp2_with fail
      go_ret
      exact ⟨_, rfl, HV.out, HW.out, _, _, cs, rfl, Nat.le_refl _, HB.out, by rw [HZ.out]; exact Nat.le_refl _, Nat.le_refl _, by omega⟩
set_option maxHeartbeats 2000000 in
theorem eqMove_same (e : RMove) (w : World) :
    Calls Try.prog 45 #[.agg #[.bool e.scan, .bool e.gone, .int .i64 e.row, .int .i64 e.key], .agg #[.bool e.scan, .bool e.gone, .int .i64 e.row, .int .i64 e.key]] w fun x w' => x = .returned (.bool true) ∧ Below w.heap.size w w' := by
  go_enter Try.func45, Try.ntmps45
  go_wp2_with fail
  go_ret
  exact ⟨rfl, ((Below.refl _ _).alloc (Nat.le_refl _) _).alloc (by simp) _⟩
set_option maxHeartbeats 4000000 in
theorem eqMoveS_same (v v' : Value) (l : List RMove) (w : World) (h : Moves w v l) (h' : Moves w v' l) :
    Calls Try.prog 21 #[v, v'] w fun x w' => x = .returned (.bool true) ∧ Below w.heap.size w w' := by
  obtain ⟨a, cap, rfl, hl, hcap, hd⟩ := h
  obtain ⟨a', cap', rfl, hl', hcap', hd'⟩ := h'
  go_enter Try.func21, Try.ntmps21
  go_wp2_with fail
  go_loopg [5] l.length (fun gk s5 wr => Below w.heap.size w wr ∧ ∃ k : Nat, k + gk = l.length ∧ s5 = .int .i64 (k : Int))
  case atStart => exact ⟨Below.refl _ _, 0, by omega, rfl⟩
  case round =>
    obtain ⟨hbw, k, hk, rfl⟩ := hrel
    have HW := hide hbw
    by_cases hlt : k < l.length
    · obtain ⟨b, off, rfl, hbb, hcell⟩ := hd.resolve_left (by rintro rfl; simp at hlt)
      obtain ⟨b', off', rfl, hbb', hcell'⟩ := hd'.resolve_left (by rintro rfl; simp at hlt)
      obtain ⟨E0, E1, E2, E3⟩ := (hcell k hlt).keep hbw
      obtain ⟨G0, G1, G2, G3⟩ := (hcell' k hlt).keep hbw
      have lb := Nat.lt_of_lt_of_le hbb hbw.size
      have lb' := Nat.lt_of_lt_of_le hbb' hbw.size
      have e0 := fun z : BW wr => bw_cell (p := ⟨b, off + k * 4, none⟩) lb E0 z
      have f0 := fun z : BW wr => bw_cell (p := ⟨b', off' + k * 4, none⟩) lb' G0 z
      have e1 := fun z : BW wr => bw_cell (p := ⟨b, off + k * 4 + 1, none⟩) lb E1 z
      have f1 := fun z : BW wr => bw_cell (p := ⟨b', off' + k * 4 + 1, none⟩) lb' G1 z
      have e2 := fun z : BW wr => bw_cell (p := ⟨b, off + k * 4 + 2, none⟩) lb E2 z
      have f2 := fun z : BW wr => bw_cell (p := ⟨b', off' + k * 4 + 2, none⟩) lb' G2 z
      have e3 := fun z : BW wr => bw_cell (p := ⟨b, off + k * 4 + 3, none⟩) lb E3 z
      have f3 := fun z : BW wr => bw_cell (p := ⟨b', off' + k * 4 + 3, none⟩) lb' G3 z
      clear hcell hd hcell' hd' hbw lb lb' hbb hbb' E0 G0 E1 G1 E2 G2 E3 G3
      generalize l[k] = e at *
      go_wp2_with fail
      refine wp_region_bw (by kernel_rfl) (by kernel_rfl) ?_
      repeat (go_big_quiet_step (first | (go_at_call 45; with_reducible exact bw_of (eqMove_same e _))))
      refine wpQuiet_nil ?_
      rintro _ ⟨z, rfl⟩
      have H1 : Hid (Below w.heap.size w z.v) := HW.out.trans (z.h.mono HW.out.size)
      go_wp2_with fail
      go_roundg (gk - 1)
      case measure => omega
      case rel => exact ⟨H1.out, k + 1, by omega, by go_num⟩
    · clear hd hd' hbw
      go_wp2_with fail
      go_ret
      exact ⟨rfl, HW.out⟩

set_option maxHeartbeats 8000000 in
theorem markMoveS_any (g n cap m : Nat) (cs : Array Value) (w : World) (hb : w.heap[g]? = some (.cells cs 48 (0, 0))) (hs : n * 4 ≤ cs.size) (hn : n ≤ cap) (hc : cap ≤ 9223372036854775807) (h0 : 1 ≤ m) (h1 : m + 4 * n ≤ 9000000) :
    Calls Try.prog 22 #[.slice (some ⟨g, 0, none⟩) n cap, .int .i64 (m : Int)] w fun e w' => e = .returned (.int .i64 ((m + 4 * n : Nat) : Int)) ∧ w.grownBy w' (some g) := by
  have HG := hide hb
  clear hb
  go_enter Try.func22, Try.ntmps22
  go_wp2_with fail
  go_loopg [1, 5] n (fun gk s1 s5 wr => w.grownBy wr (some g) ∧ ∃ (k p : Nat) (cr : Array Value), k + gk = n ∧ Hid (p = m + 4 * k) ∧ s1 = .int .i64 (p : Int) ∧ s5 = .int .i64 (k : Int) ∧ cr.size = cs.size ∧ wr.heap[g]? = some (.cells cr 48 (0, 0)))
  case atStart => exact ⟨grown_below (Below.refl _ _) _, 0, m, cs, by omega, hide (by omega), rfl, rfl, rfl, HG.out⟩
  case round =>
    obtain ⟨hgw, k, p, cr, hk, hp, rfl, rfl, hsz, hblk⟩ := hrel
    have HW := hide hgw
    have HB := hide hblk
    have hgr : g < wr.heap.size := lt_block hblk
    clear hgw hblk
    by_cases hlt : k < n
    · have hp1 : 1 ≤ p := by have := hp.out; omega
      have hp2 : p ≤ 8999996 := by have := hp.out; omega
      obtain ⟨u0, x0⟩ : ∃ u, wr.cell? ⟨g, k * 4, none⟩ = some u := ⟨_, by rw [cell_block HB.out]; exact Array.getElem?_eq_getElem (by omega)⟩
      have f0 := froz_block HB.out (k * 4)
      obtain ⟨u1, x1⟩ : ∃ u, wr.cell? ⟨g, k * 4 + 1, none⟩ = some u := ⟨_, by rw [cell_block HB.out]; exact Array.getElem?_eq_getElem (by omega)⟩
      have f1 := froz_block HB.out (k * 4 + 1)
      obtain ⟨u2, x2⟩ : ∃ u, wr.cell? ⟨g, k * 4 + 2, none⟩ = some u := ⟨_, by rw [cell_block HB.out]; exact Array.getElem?_eq_getElem (by omega)⟩
      have f2 := froz_block HB.out (k * 4 + 2)
      obtain ⟨u3, x3⟩ : ∃ u, wr.cell? ⟨g, k * 4 + 3, none⟩ = some u := ⟨_, by rw [cell_block HB.out]; exact Array.getElem?_eq_getElem (by omega)⟩
      have f3 := froz_block HB.out (k * 4 + 3)
      go_wp2_with fail
      go_roundg (gk - 1)
      case measure => omega
      case rel => exact ⟨grown_trans (grown_trans (grown_trans (grown_trans (HW.out) (grown_setCell _ _ _ _)) (grown_setCell _ _ _ _)) (grown_setCell _ _ _ _)) (grown_setCell _ _ _ _), k + 1, p + 4, _, by omega, hide (by have := hp.out; omega), by go_num, by go_num, by simp [hsz], set_block (set_block (set_block (set_block HB.out _ _) _ _) _ _) _ _⟩
    · have HE : Hid (k = n) := hide (by omega)
      go_wp2_with fail
      go_ret
      have hkl := HE.out
      subst hkl
      exact ⟨by rw [hp.out]; rfl, HW.out⟩

end Go.Proofs.Ytfidhndojkopaaa
