/-
  Cell: its record, its rows, and the laws' helpers at it.
-/
import Derived.Test.YtnicjpfkiblimaaKBase
import Derived.Test.YtnicjpfkiblimaaRows
import Derived.Deep.LoopGhost
import Derived.OwnWalk
import Derived.Deep.AppendLies
import Derived.Laws.OwnMore
set_option linter.all false
namespace Go.Proofs.Ytnicjpfkiblimaa
open Go.RowKit
structure RCell where
  num : Int
  lsn : Int
def CellAt (w : World) (b o : Nat) (e : RCell) : Prop := w.cell? ⟨b, o, none⟩ = some (.int .i64 e.num) ∧ w.cell? ⟨b, o + 1, none⟩ = some (.int .i64 e.lsn)
/-- a row that can be read -/
def Cells (w : World) (v : Value) (l : List RCell) : Prop :=
  ∃ a cap, v = .slice a l.length cap ∧ l.length ≤ cap ∧ cap ≤ 9223372036854775807 ∧ (l = [] ∨ ∃ b off, a = some ⟨b, off, none⟩ ∧ b < w.heap.size ∧ ∀ i (h : i < l.length), CellAt w b (off + i * 2) l[i])
theorem CellAt.first {w : World} {b o : Nat} {e : RCell} (h : CellAt w b o e) : b < w.heap.size := lt_cell h.1
theorem CellAt.keep {w w' : World} {b o : Nat} {e : RCell} (h : CellAt w b o e) (hb : Below w.heap.size w w') : CellAt w' b o e := by
  have hlt : b < w.heap.size := h.first
  obtain ⟨h0, h1⟩ := h
  exact ⟨(hb.cell (p := ⟨b, o, none⟩) hlt).trans h0, (hb.cell (p := ⟨b, o + 1, none⟩) hlt).trans h1⟩
theorem Cells.keep {w w' : World} {v : Value} {l : List RCell} (h : Cells w v l) (hb : Below w.heap.size w w') : Cells w' v l := by
  obtain ⟨a, cap, hv, h1, h2, h3⟩ := h
  refine ⟨a, cap, hv, h1, h2, ?_⟩
  rcases h3 with h3 | ⟨b, off, e, hlt, hc⟩
  · exact .inl h3
  · exact .inr ⟨b, off, e, Nat.lt_of_lt_of_le hlt hb.size, fun i hi => (hc i hi).keep hb⟩
theorem infoCell : (Try.prog.info? 33).map (fun i => (i.zero, i.size, i.bytes)) = some (some (.agg #[.int .i64 0, .int .i64 0]), 2, 16) := by kernel_rfl
/-- the first k records of l lie in the cells -/
def ArrCell (cs : Array Value) (l : List RCell) (k : Nat) : Prop := ∀ j (hj : j < k) (hl : j < l.length), cs[j * 2]? = some (.int .i64 l[j].num) ∧ cs[j * 2 + 1]? = some (.int .i64 l[j].lsn)
theorem ArrCell.step {cs : Array Value} {l : List RCell} {k : Nat} (h : ArrCell cs l k) (hk : k < l.length) (hs : l.length * 2 ≤ cs.size) :
    ArrCell ((cs.setIfInBounds (k * 2) (.int .i64 l[k].num)).setIfInBounds (k * 2 + 1) (.int .i64 l[k].lsn)) l (k + 1) := by
  intro j hj hl
  by_cases hjk : j = k
  · subst hjk
    refine ⟨?_, ?_⟩
    · rw [Array.getElem?_setIfInBounds_ne (by omega), Array.getElem?_setIfInBounds_self_of_lt (by omega)]
    · rw [Array.getElem?_setIfInBounds_self_of_lt (by simp; omega)]
  · obtain ⟨h0, h1⟩ := h j (by omega) hl
    refine ⟨?_, ?_⟩
    · rw [Array.getElem?_setIfInBounds_ne (by omega), Array.getElem?_setIfInBounds_ne (by omega)]; exact h0
    · rw [Array.getElem?_setIfInBounds_ne (by omega), Array.getElem?_setIfInBounds_ne (by omega)]; exact h1
theorem Cells.block {w : World} {g : Nat} {cs : Array Value} {t : TypeId} {l : List RCell} {cap : Nat} (h : w.heap[g]? = some (.cells cs t (0, 0))) (ha : ArrCell cs l l.length) (hl : l.length ≤ cap) (hc : cap ≤ 9223372036854775807) :
    Cells w (.slice (some ⟨g, 0, none⟩) l.length cap) l :=
  ⟨_, cap, rfl, hl, hc, .inr ⟨g, 0, rfl, lt_block h, fun i hi => by
    obtain ⟨h0, h1⟩ := ha i hi hi
    exact ⟨by rw [cell_block h, Nat.zero_add]; exact h0, by rw [cell_block h, Nat.zero_add]; exact h1⟩⟩⟩
/-- the row of a copy: its block is new and whole -/
def NewCell (w w' : World) (v : Value) (l : List RCell) : Prop := ∃ g cap cs, v = .slice (some ⟨g, 0, none⟩) l.length cap ∧ w.heap.size ≤ g ∧ w'.heap[g]? = some (.cells cs 33 (0, 0)) ∧ l.length * 2 ≤ cs.size ∧ l.length ≤ cap ∧ cap ≤ 9223372036854775807
end Go.Proofs.Ytnicjpfkiblimaa
