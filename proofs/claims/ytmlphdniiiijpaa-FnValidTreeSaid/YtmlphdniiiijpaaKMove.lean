/-
  Move: its record, its rows, and the laws' helpers at it.
-/
import Derived.Test.YtmlphdniiiijpaaItemOrd
import Derived.Test.YtmlphdniiiijpaaRows
import Derived.Deep.LoopGhost
import Derived.OwnWalk
import Derived.Deep.AppendLies
import Derived.Laws.OwnMore
set_option linter.all false
namespace Go.Proofs.Ytmlphdniiiijpaa
open Go.RowKit
structure RMove where
  scan : Bool
  gone : Bool
  row : Int
  key : Int
def MoveAt (w : World) (b o : Nat) (e : RMove) : Prop := w.cell? ⟨b, o, none⟩ = some (.bool e.scan) ∧ w.cell? ⟨b, o + 1, none⟩ = some (.bool e.gone) ∧ w.cell? ⟨b, o + 2, none⟩ = some (.int .i64 e.row) ∧ w.cell? ⟨b, o + 3, none⟩ = some (.int .i64 e.key)
/-- a row that can be read -/
def Moves (w : World) (v : Value) (l : List RMove) : Prop :=
  ∃ a cap, v = .slice a l.length cap ∧ l.length ≤ cap ∧ cap ≤ 9223372036854775807 ∧ (l = [] ∨ ∃ b off, a = some ⟨b, off, none⟩ ∧ b < w.heap.size ∧ ∀ i (h : i < l.length), MoveAt w b (off + i * 4) l[i])
theorem MoveAt.first {w : World} {b o : Nat} {e : RMove} (h : MoveAt w b o e) : b < w.heap.size := lt_cell h.1
theorem MoveAt.keep {w w' : World} {b o : Nat} {e : RMove} (h : MoveAt w b o e) (hb : Below w.heap.size w w') : MoveAt w' b o e := by
  have hlt : b < w.heap.size := h.first
  obtain ⟨h0, h1, h2, h3⟩ := h
  exact ⟨(hb.cell (p := ⟨b, o, none⟩) hlt).trans h0, (hb.cell (p := ⟨b, o + 1, none⟩) hlt).trans h1, (hb.cell (p := ⟨b, o + 2, none⟩) hlt).trans h2, (hb.cell (p := ⟨b, o + 3, none⟩) hlt).trans h3⟩
theorem Moves.keep {w w' : World} {v : Value} {l : List RMove} (h : Moves w v l) (hb : Below w.heap.size w w') : Moves w' v l := by
  obtain ⟨a, cap, hv, h1, h2, h3⟩ := h
  refine ⟨a, cap, hv, h1, h2, ?_⟩
  rcases h3 with h3 | ⟨b, off, e, hlt, hc⟩
  · exact .inl h3
  · exact .inr ⟨b, off, e, Nat.lt_of_lt_of_le hlt hb.size, fun i hi => (hc i hi).keep hb⟩
/-- the first k records of l lie in the cells -/
def ArrMove (cs : Array Value) (l : List RMove) (k : Nat) : Prop := ∀ j (hj : j < k) (hl : j < l.length), cs[j * 4]? = some (.bool l[j].scan) ∧ cs[j * 4 + 1]? = some (.bool l[j].gone) ∧ cs[j * 4 + 2]? = some (.int .i64 l[j].row) ∧ cs[j * 4 + 3]? = some (.int .i64 l[j].key)
theorem ArrMove.step {cs : Array Value} {l : List RMove} {k : Nat} (h : ArrMove cs l k) (hk : k < l.length) (hs : l.length * 4 ≤ cs.size) :
    ArrMove ((((cs.setIfInBounds (k * 4) (.bool l[k].scan)).setIfInBounds (k * 4 + 1) (.bool l[k].gone)).setIfInBounds (k * 4 + 2) (.int .i64 l[k].row)).setIfInBounds (k * 4 + 3) (.int .i64 l[k].key)) l (k + 1) := by
  intro j hj hl
  by_cases hjk : j = k
  · subst hjk
    refine ⟨?_, ?_, ?_, ?_⟩
    · rw [Array.getElem?_setIfInBounds_ne (by omega), Array.getElem?_setIfInBounds_ne (by omega), Array.getElem?_setIfInBounds_ne (by omega), Array.getElem?_setIfInBounds_self_of_lt (by omega)]
    · rw [Array.getElem?_setIfInBounds_ne (by omega), Array.getElem?_setIfInBounds_ne (by omega), Array.getElem?_setIfInBounds_self_of_lt (by simp; omega)]
    · rw [Array.getElem?_setIfInBounds_ne (by omega), Array.getElem?_setIfInBounds_self_of_lt (by simp; omega)]
    · rw [Array.getElem?_setIfInBounds_self_of_lt (by simp; omega)]
  · obtain ⟨h0, h1, h2, h3⟩ := h j (by omega) hl
    refine ⟨?_, ?_, ?_, ?_⟩
    · rw [Array.getElem?_setIfInBounds_ne (by omega), Array.getElem?_setIfInBounds_ne (by omega), Array.getElem?_setIfInBounds_ne (by omega), Array.getElem?_setIfInBounds_ne (by omega)]; exact h0
    · rw [Array.getElem?_setIfInBounds_ne (by omega), Array.getElem?_setIfInBounds_ne (by omega), Array.getElem?_setIfInBounds_ne (by omega), Array.getElem?_setIfInBounds_ne (by omega)]; exact h1
    · rw [Array.getElem?_setIfInBounds_ne (by omega), Array.getElem?_setIfInBounds_ne (by omega), Array.getElem?_setIfInBounds_ne (by omega), Array.getElem?_setIfInBounds_ne (by omega)]; exact h2
    · rw [Array.getElem?_setIfInBounds_ne (by omega), Array.getElem?_setIfInBounds_ne (by omega), Array.getElem?_setIfInBounds_ne (by omega), Array.getElem?_setIfInBounds_ne (by omega)]; exact h3
theorem Moves.block {w : World} {g : Nat} {cs : Array Value} {t : TypeId} {l : List RMove} {cap : Nat} (h : w.heap[g]? = some (.cells cs t (0, 0))) (ha : ArrMove cs l l.length) (hl : l.length ≤ cap) (hc : cap ≤ 9223372036854775807) :
    Moves w (.slice (some ⟨g, 0, none⟩) l.length cap) l :=
  ⟨_, cap, rfl, hl, hc, .inr ⟨g, 0, rfl, lt_block h, fun i hi => by
    obtain ⟨h0, h1, h2, h3⟩ := ha i hi hi
    exact ⟨by rw [cell_block h, Nat.zero_add]; exact h0, by rw [cell_block h, Nat.zero_add]; exact h1, by rw [cell_block h, Nat.zero_add]; exact h2, by rw [cell_block h, Nat.zero_add]; exact h3⟩⟩⟩
end Go.Proofs.Ytmlphdniiiijpaa
