/-
  toEntryS: a copy of a catalog, in new memory.
-/
import Derived.Test.YteikeljklfblmaaCat3
import Derived.OwnWalk
set_option linter.all false
namespace Go.Proofs.Yteikeljklfblmaa
open Go.RowKit
theorem infoE : (Try.prog.info? 27).map (fun i => (i.zero, i.size, i.bytes)) = some (some (.agg #[.string ⟨#[]⟩, .string ⟨#[]⟩, .int .i64 0]), 3, 40) := by kernel_rfl
/-- the first k entries of l lie in the cells -/
def ArrE (cs : Array Value) (l : List Ent) (k : Nat) : Prop := ∀ j (hj : j < k) (hl : j < l.length), cs[j * 3]? = some (.string l[j].n) ∧ cs[j * 3 + 1]? = some (.string l[j].t) ∧ cs[j * 3 + 2]? = some (.int .i64 l[j].s)
theorem ArrE.step {cs : Array Value} {l : List Ent} {k : Nat} (h : ArrE cs l k) (hk : k < l.length) (hs : l.length * 3 ≤ cs.size) :
    ArrE (((cs.setIfInBounds (k * 3) (.string l[k].n)).setIfInBounds (k * 3 + 1) (.string l[k].t)).setIfInBounds (k * 3 + 2) (.int .i64 l[k].s)) l (k + 1) := by
  intro j hj hl
  by_cases hjk : j = k
  · subst hjk
    refine ⟨?_, ?_, ?_⟩
    · rw [Array.getElem?_setIfInBounds_ne (by omega), Array.getElem?_setIfInBounds_ne (by omega), Array.getElem?_setIfInBounds_self_of_lt (by omega)]
    · rw [Array.getElem?_setIfInBounds_ne (by omega), Array.getElem?_setIfInBounds_self_of_lt (by simp; omega)]
    · rw [Array.getElem?_setIfInBounds_self_of_lt (by simp; omega)]
  · obtain ⟨h1, h2, h3⟩ := h j (by omega) hl
    refine ⟨?_, ?_, ?_⟩
    · rw [Array.getElem?_setIfInBounds_ne (by omega), Array.getElem?_setIfInBounds_ne (by omega), Array.getElem?_setIfInBounds_ne (by omega)]; exact h1
    · rw [Array.getElem?_setIfInBounds_ne (by omega), Array.getElem?_setIfInBounds_ne (by omega), Array.getElem?_setIfInBounds_ne (by omega)]; exact h2
    · rw [Array.getElem?_setIfInBounds_ne (by omega), Array.getElem?_setIfInBounds_ne (by omega), Array.getElem?_setIfInBounds_ne (by omega)]; exact h3
theorem ents_block {w : World} {g : Nat} {cs : Array Value} {t : TypeId} {l : List Ent} {cap : Nat} (h : w.heap[g]? = some (.cells cs t (0, 0))) (ha : ArrE cs l l.length) (hl : l.length ≤ cap) (hc : cap ≤ 9223372036854775807)
    (hz : ∀ e ∈ l, e.n.size ≤ 9223372036854775807 ∧ e.t.size ≤ 9223372036854775807) : Ents w (.slice (some ⟨g, 0, none⟩) l.length cap) l :=
  ⟨_, cap, rfl, hl, hc, .inr ⟨g, 0, rfl, lt_block h, fun i hi => by
    obtain ⟨h1, h2, h3⟩ := ha i hi hi
    have hz' := hz _ (List.getElem_mem hi)
    exact ⟨by rw [cell_block h, Nat.zero_add]; exact h1, by rw [cell_block h, Nat.zero_add]; exact h2, by rw [cell_block h, Nat.zero_add]; exact h3, hz'.1, hz'.2⟩⟩⟩
theorem Ents.sizes {w : World} {v : Value} {l : List Ent} (h : Ents w v l) : ∀ e ∈ l, e.n.size ≤ 9223372036854775807 ∧ e.t.size ≤ 9223372036854775807 := by
  obtain ⟨a, cap, rfl, hl, hcap, hd⟩ := h
  intro e he
  rcases hd with rfl | ⟨b, off, _, _, hc⟩
  · cases he
  · obtain ⟨i, hi, rfl⟩ := List.getElem_of_mem he
    exact (hc i hi).2.2.2
set_option maxHeartbeats 4000000 in
theorem toEntryS_any (v : Value) (l : List Ent) (w : World) (h : Ents w v l) (hn : l.length ≤ 1048576) :
    Calls Try.prog 18 #[v] w fun e w' => ∃ v', e = .returned v' ∧ Ents w' v' l ∧ Below w.heap.size w w' ∧ ∃ g cap cs, v' = .slice (some ⟨g, 0, none⟩) l.length cap ∧ w.heap.size ≤ g ∧ w'.heap[g]? = some (.cells cs 27 (0, 0)) := by
  have HS := hide h.sizes
  obtain ⟨a, cap, rfl, hl, hcap, hd⟩ := h
  obtain ⟨i0, hi, hz0, hz1, hz2⟩ := info_parts infoE
  obtain ⟨cs0, hcs0, hmk⟩ : ∃ cs0 : Array Value, cs0.size = l.length * 3 ∧ ∀ W : World, (Instr.makeSlice 23 (.int .i64 (l.length : Int)) (.int .i64 (l.length : Int))).run Try.prog W = .ok (.slice (some ⟨W.heap.size, 0, none⟩) l.length l.length) (W.alloc (.cells cs0 27)) :=
    ⟨madeCells (Value.cells (.agg #[.string ⟨#[]⟩, .string ⟨#[]⟩, .int .i64 0])) (l.length * i0.size), by rw [size_madeCells, hz1], fun W => run_make_rowN _ _ i0 _ Try.underlying23 hi hz0 .i64 .i64 l.length l.length (Nat.le_refl _) (by rw [hz2]; omega) (by omega) W⟩
  have HC0 := hide hcs0
  clear hcs0 hi hz0 hz1 hz2
  go_enter Try.func18, Try.ntmps18
  go_wp2_with fail
  clear hmk
  go_loopg [4] l.length (fun gk s4 wr => Below w.heap.size w wr ∧ ∃ (k : Nat) (cs : Array Value), k + gk = l.length ∧ s4 = .int .i64 (k : Int) ∧ cs.size = l.length * 3 ∧ wr.heap[w.heap.size]? = some (.cells cs 27 (0, 0)) ∧ ArrE cs l k)
  case atStart => exact ⟨(Below.refl _ _).alloc (Nat.le_refl _) _, 0, cs0, by omega, rfl, HC0.out, blk_alloc w _, fun j hj => by omega⟩
  case round =>
    obtain ⟨hbw, k, cs, hk, rfl, hsz, hblk, harr⟩ := hrel
    have HW := hide hbw
    have HB := hide hblk
    have HA := hide harr
    have HZ := hide hsz
    clear hblk harr hsz HC0
    by_cases hlt : k < l.length
    · obtain ⟨b, off, rfl, hbb, hcell⟩ := hd.resolve_left (by rintro rfl; simp at hlt)
      obtain ⟨e0, e1, e2, -⟩ := (hcell k hlt).keep hbw
      have HA' := hide (HA.out.step hlt (by rw [HZ.out]; omega))
      clear hcell hd hbw HA
      generalize l[k] = e at *
      go_wp2_with fail
      refine (toEntry_any e _).mono ?_
      rintro e' w1 ⟨rfl, hb1⟩
      have B1 := hide (blk_own hb1 HB.out)
      have H1 : Hid (Below w.heap.size w w1) := HW.out.trans (hb1.mono HW.out.size)
      clear hb1
      have x0 : ∃ u, w1.cell? ⟨w.heap.size, k * 3, none⟩ = some u := ⟨_, by rw [cell_block B1.out]; exact Array.getElem?_eq_getElem (by rw [HZ.out]; omega)⟩
      have x1 : ∃ u, w1.cell? ⟨w.heap.size, k * 3 + 1, none⟩ = some u := ⟨_, by rw [cell_block B1.out]; exact Array.getElem?_eq_getElem (by rw [HZ.out]; omega)⟩
      have x2 : ∃ u, w1.cell? ⟨w.heap.size, k * 3 + 2, none⟩ = some u := ⟨_, by rw [cell_block B1.out]; exact Array.getElem?_eq_getElem (by rw [HZ.out]; omega)⟩
      obtain ⟨u0, x0⟩ := x0
      obtain ⟨u1, x1⟩ := x1
      obtain ⟨u2, x2⟩ := x2
      have f0 := froz_block B1.out (k * 3)
      have f1 := froz_block B1.out (k * 3 + 1)
      have f2 := froz_block B1.out (k * 3 + 2)
      go_wp2_with fail
      go_roundg (gk - 1)
      case measure => omega
      case rel => exact ⟨((H1.out.setCell (by simp) _).setCell (by simp) _).setCell (by simp) _, k + 1, _, by omega, by go_num, by simp [HZ.out], set_block (set_block (set_block B1.out _ _) _ _) _ _, HA'.out⟩
    · have hkl : k = l.length := by omega
      have HA2 : Hid (ArrE cs l l.length) := by have := HA.out; rw [hkl] at this; exact this
      clear hd hbw hkl
      go_wp2_with fail
      go_ret
      exact ⟨_, rfl, ents_block HB.out HA2.out (Nat.le_refl _) (by omega) HS.out, HW.out, _, _, _, rfl, Nat.le_refl _, HB.out⟩
end Go.Proofs.Yteikeljklfblmaa
