/-
  Items in memory; the measures, copies and comparisons of items in the laws.
-/
import Derived.Test.YtmlphdniiiijpaaRows
import Derived.Test.YtmlphdniiiijpaaBase
import Derived.Deep.LoopGhost
import Derived.Test.YtmlphdniiiijpaaQuiet
import Derived.Test.YtmlphdniiiijpaaMake
import Derived.OwnWalk
set_option linter.all false
namespace Go.Proofs.Ytmlphdniiiijpaa
open Go.RowKit
structure Itm where
  k : Int
  r : Int
def ItmAt (w : World) (b o : Nat) (e : Itm) : Prop := w.cell? ⟨b, o, none⟩ = some (.int .i64 e.k) ∧ w.cell? ⟨b, o + 1, none⟩ = some (.int .i64 e.r)
/-- a slice of items that can be read -/
def Itms (w : World) (v : Value) (l : List Itm) : Prop :=
  ∃ a cap, v = .slice a l.length cap ∧ l.length ≤ cap ∧ cap ≤ 9223372036854775807 ∧ (l = [] ∨ ∃ b off, a = some ⟨b, off, none⟩ ∧ b < w.heap.size ∧ ∀ i (h : i < l.length), ItmAt w b (off + i * 2) l[i])
theorem ItmAt.keep {w w' : World} {b o : Nat} {e : Itm} (h : ItmAt w b o e) (hb : Below w.heap.size w w') : ItmAt w' b o e := by
  have hlt : b < w.heap.size := lt_cell h.1
  exact ⟨(hb.cell (p := ⟨b, o, none⟩) hlt).trans h.1, (hb.cell (p := ⟨b, o + 1, none⟩) hlt).trans h.2⟩
theorem Itms.keep {w w' : World} {v : Value} {l : List Itm} (h : Itms w v l) (hb : Below w.heap.size w w') : Itms w' v l := by
  obtain ⟨a, cap, hv, h1, h2, h3⟩ := h
  refine ⟨a, cap, hv, h1, h2, ?_⟩
  rcases h3 with h3 | ⟨b, off, e, hlt, hc⟩
  · exact .inl h3
  · exact .inr ⟨b, off, e, Nat.lt_of_lt_of_le hlt hb.size, fun i hi => (hc i hi).keep hb⟩
def SzRet (w : World) (left : Int) (n : Nat) (e : Ending) (w' : World) : Prop := ∃ r : Int, e = .returned (.int .i64 r) ∧ -1 ≤ r ∧ r ≤ left ∧ (r < 0 ∨ (n : Int) ≤ left) ∧ Below w.heap.size w w'
set_option maxHeartbeats 2000000 in
theorem szItemS_any (v : Value) (l : List Itm) (left : Int) (w : World) (h : Itms w v l) (h0 : 0 ≤ left) (h1 : left ≤ 1048576) :
    Calls Try.prog 76 #[v, .int .i64 left] w (SzRet w left l.length) := by
  obtain ⟨a, cap, rfl, hl, hcap, hd⟩ := h
  by_cases c1 : left - (l.length : Int) < 0
  · go_enter Try.func76, Try.ntmps76
    go_wp2_with fail
    go_ret
    exact ⟨-1, rfl, by omega, by omega, .inl (by omega), Below.refl _ _⟩
  · go_enter Try.func76, Try.ntmps76
    go_wp2_with fail
    go_ret
    exact ⟨_, rfl, by omega, by omega, .inr (by omega), Below.refl _ _⟩
set_option maxHeartbeats 1000000 in
theorem toItem_any (e : Itm) (w : World) :
    Calls Try.prog 31 #[.agg #[.int .i64 e.k, .int .i64 e.r]] w fun e' w' => e' = .returned (.agg #[.int .i64 e.k, .int .i64 e.r]) ∧ Below w.heap.size w w' := by
  go_enter Try.func31, Try.ntmps31
  go_wp2_with fail
  all_goals go_tidy
  refine ⟨rfl, .agg #[.int .i64 e.k, .int .i64 e.r], by simp [results, Try.results31, go_sem], rfl, ?_⟩
  repeat (first | (with_reducible exact Below.refl _ _) | (with_reducible refine Below.setCell ?_ (by simp) _) | (with_reducible refine Below.alloc ?_ (by simp <;> omega) _))
theorem infoI : (Try.prog.info? 38).map (fun i => (i.zero, i.size, i.bytes)) = some (some (.agg #[.int .i64 0, .int .i64 0]), 2, 16) := by kernel_rfl
/-- the first k items of l lie in the cells -/
def ArrI (cs : Array Value) (l : List Itm) (k : Nat) : Prop := ∀ j (hj : j < k) (hl : j < l.length), cs[j * 2]? = some (.int .i64 l[j].k) ∧ cs[j * 2 + 1]? = some (.int .i64 l[j].r)
theorem ArrI.step {cs : Array Value} {l : List Itm} {k : Nat} (h : ArrI cs l k) (hk : k < l.length) (hs : l.length * 2 ≤ cs.size) :
    ArrI ((cs.setIfInBounds (k * 2) (.int .i64 l[k].k)).setIfInBounds (k * 2 + 1) (.int .i64 l[k].r)) l (k + 1) := by
  intro j hj hl
  by_cases hjk : j = k
  · subst hjk
    refine ⟨?_, ?_⟩
    · rw [Array.getElem?_setIfInBounds_ne (by omega), Array.getElem?_setIfInBounds_self_of_lt (by omega)]
    · rw [Array.getElem?_setIfInBounds_self_of_lt (by simp; omega)]
  · obtain ⟨h1, h2⟩ := h j (by omega) hl
    refine ⟨?_, ?_⟩
    · rw [Array.getElem?_setIfInBounds_ne (by omega), Array.getElem?_setIfInBounds_ne (by omega)]; exact h1
    · rw [Array.getElem?_setIfInBounds_ne (by omega), Array.getElem?_setIfInBounds_ne (by omega)]; exact h2
theorem itms_block {w : World} {g : Nat} {cs : Array Value} {t : TypeId} {l : List Itm} {cap : Nat} (h : w.heap[g]? = some (.cells cs t (0, 0))) (ha : ArrI cs l l.length) (hl : l.length ≤ cap) (hc : cap ≤ 9223372036854775807) :
    Itms w (.slice (some ⟨g, 0, none⟩) l.length cap) l :=
  ⟨_, cap, rfl, hl, hc, .inr ⟨g, 0, rfl, lt_block h, fun i hi => by
    obtain ⟨h1, h2⟩ := ha i hi hi
    exact ⟨by rw [cell_block h, Nat.zero_add]; exact h1, by rw [cell_block h, Nat.zero_add]; exact h2⟩⟩⟩
set_option maxHeartbeats 4000000 in
theorem toItemS_any (v : Value) (l : List Itm) (w : World) (h : Itms w v l) (hn : l.length ≤ 1048576) :
    Calls Try.prog 77 #[v] w fun e w' => ∃ v', e = .returned v' ∧ Itms w' v' l ∧ Below w.heap.size w w' ∧ ∃ g cap cs, v' = .slice (some ⟨g, 0, none⟩) l.length cap ∧ w.heap.size ≤ g ∧ w'.heap[g]? = some (.cells cs 38 (0, 0)) := by
  obtain ⟨a, cap, rfl, hl, hcap, hd⟩ := h
  obtain ⟨i0, hi, hz0, hz1, hz2⟩ := info_parts infoI
  obtain ⟨cs0, hcs0, hmk⟩ : ∃ cs0 : Array Value, cs0.size = l.length * 2 ∧ ∀ W : World, (Instr.makeSlice 28 (.int .i64 (l.length : Int)) (.int .i64 (l.length : Int))).run Try.prog W = .ok (.slice (some ⟨W.heap.size, 0, none⟩) l.length l.length) (W.alloc (.cells cs0 38)) :=
    ⟨madeCells (Value.cells (.agg #[.int .i64 0, .int .i64 0])) (l.length * i0.size), by rw [size_madeCells, hz1], fun W => run_make_rowN _ _ i0 _ Try.underlying28 hi hz0 .i64 .i64 l.length l.length (Nat.le_refl _) (by rw [hz2]; omega) (by omega) W⟩
  have HC0 := hide hcs0
  clear hcs0 hi hz0 hz1 hz2
  go_enter Try.func77, Try.ntmps77
  go_wp2_with fail
  clear hmk
  go_loopg [4] l.length (fun gk s4 wr => Below w.heap.size w wr ∧ ∃ (k : Nat) (cs : Array Value), k + gk = l.length ∧ s4 = .int .i64 (k : Int) ∧ cs.size = l.length * 2 ∧ wr.heap[w.heap.size]? = some (.cells cs 38 (0, 0)) ∧ ArrI cs l k)
  case atStart => exact ⟨(Below.refl _ _).alloc (Nat.le_refl _) _, 0, cs0, by omega, rfl, HC0.out, blk_alloc w _, fun j hj => by omega⟩
  case round =>
    obtain ⟨hbw, k, cs, hk, rfl, hsz, hblk, harr⟩ := hrel
    have HW := hide hbw
    have HB := hide hblk
    have HA := hide harr
    have HZ := hide hsz
    clear hblk harr hsz HC0
    by_cases hlt : k < l.length
    · obtain ⟨b, off, rfl, hbb, hcell⟩ := hd.resolve_left (by rintro rfl; simp at hlt)
      obtain ⟨e0, e1⟩ := (hcell k hlt).keep hbw
      have HA' := hide (HA.out.step hlt (by rw [HZ.out]; omega))
      clear hcell hd hbw HA
      generalize l[k] = e at *
      go_wp2_with fail
      refine (toItem_any e _).mono ?_
      rintro e' w1 ⟨rfl, hb1⟩
      have B1 := hide (blk_own hb1 HB.out)
      have H1 : Hid (Below w.heap.size w w1) := HW.out.trans (hb1.mono HW.out.size)
      clear hb1
      have x0 : ∃ u, w1.cell? ⟨w.heap.size, k * 2, none⟩ = some u := ⟨_, by rw [cell_block B1.out]; exact Array.getElem?_eq_getElem (by rw [HZ.out]; omega)⟩
      have x1 : ∃ u, w1.cell? ⟨w.heap.size, k * 2 + 1, none⟩ = some u := ⟨_, by rw [cell_block B1.out]; exact Array.getElem?_eq_getElem (by rw [HZ.out]; omega)⟩
      obtain ⟨u0, x0⟩ := x0
      obtain ⟨u1, x1⟩ := x1
      have f0 := froz_block B1.out (k * 2)
      have f1 := froz_block B1.out (k * 2 + 1)
      go_wp2_with fail
      go_roundg (gk - 1)
      case measure => omega
      case rel => exact ⟨(H1.out.setCell (by simp) _).setCell (by simp) _, k + 1, _, by omega, by go_num, by simp [HZ.out], set_block (set_block B1.out _ _) _ _, HA'.out⟩
    · have hkl : k = l.length := by omega
      subst hkl
      have HV := hide (itms_block HB.out HA.out (Nat.le_refl _) (by omega))
      clear hd hbw
      go_wp2_with fail
      go_ret
      exact ⟨_, rfl, HV.out, HW.out, _, _, cs, rfl, Nat.le_refl _, HB.out⟩
set_option maxHeartbeats 2000000 in
theorem eqItem_same (e : Itm) (w : World) :
    Calls Try.prog 84 #[.agg #[.int .i64 e.k, .int .i64 e.r], .agg #[.int .i64 e.k, .int .i64 e.r]] w fun x w' => x = .returned (.bool true) ∧ Below w.heap.size w w' := by
  go_enter Try.func84, Try.ntmps84
  go_wp2_with fail
  go_ret
  exact ⟨rfl, ((Below.refl _ _).alloc (Nat.le_refl _) _).alloc (by simp) _⟩
theorem bw_cell {w : World} {p : Addr} {v : Value} (hp : p.block < w.heap.size) (h : w.cell? p = some v) (z : BW w) : z.v.cell? p = some v := (z.h.cell hp).trans h
set_option maxHeartbeats 4000000 in
theorem eqItemS_same (v v' : Value) (l : List Itm) (w : World) (h : Itms w v l) (h' : Itms w v' l) :
    Calls Try.prog 78 #[v, v'] w fun x w' => x = .returned (.bool true) ∧ Below w.heap.size w w' := by
  obtain ⟨a, cap, rfl, hl, hcap, hd⟩ := h
  obtain ⟨a', cap', rfl, hl', hcap', hd'⟩ := h'
  go_enter Try.func78, Try.ntmps78
  go_wp2_with fail
  go_loopg [5] l.length (fun gk s5 wr => Below w.heap.size w wr ∧ ∃ k : Nat, k + gk = l.length ∧ s5 = .int .i64 (k : Int))
  case atStart => exact ⟨Below.refl _ _, 0, by omega, rfl⟩
  case round =>
    obtain ⟨hbw, k, hk, rfl⟩ := hrel
    have HW := hide hbw
    by_cases hlt : k < l.length
    · obtain ⟨b, off, rfl, hbb, hcell⟩ := hd.resolve_left (by rintro rfl; simp at hlt)
      obtain ⟨b', off', rfl, hbb', hcell'⟩ := hd'.resolve_left (by rintro rfl; simp at hlt)
      have E := (hcell k hlt).keep hbw
      have E' := (hcell' k hlt).keep hbw
      have lb := Nat.lt_of_lt_of_le hbb hbw.size
      have lb' := Nat.lt_of_lt_of_le hbb' hbw.size
      have e0 := fun z : BW wr => bw_cell (p := ⟨b, off + k * 2, none⟩) lb E.1 z
      have e1 := fun z : BW wr => bw_cell (p := ⟨b, off + k * 2 + 1, none⟩) lb E.2 z
      have f0 := fun z : BW wr => bw_cell (p := ⟨b', off' + k * 2, none⟩) lb' E'.1 z
      have f1 := fun z : BW wr => bw_cell (p := ⟨b', off' + k * 2 + 1, none⟩) lb' E'.2 z
      clear hcell hd hcell' hd' hbw E E' lb lb' hbb hbb'
      generalize l[k] = e at *
      go_wp2_with fail
      refine wp_region_bw (by kernel_rfl) (by kernel_rfl) ?_
      repeat (go_big_quiet_step (first | (go_at_call 84; with_reducible exact bw_of (eqItem_same e _))))
      refine wpQuiet_nil ?_
      rintro _ ⟨z, rfl⟩
      have H1 : Hid (Below w.heap.size w z.v) := HW.out.trans (z.h.mono HW.out.size)
      go_wp2_with fail
      go_roundg (gk - 1)
      case measure => omega
      case rel => exact ⟨H1.out, k + 1, by omega, by go_num⟩
    · clear hd hd' hbw
      go_wp2_with fail
      go_ret
      exact ⟨rfl, HW.out⟩
end Go.Proofs.Ytmlphdniiiijpaa
