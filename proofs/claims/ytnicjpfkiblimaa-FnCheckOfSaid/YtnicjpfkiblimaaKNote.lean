/-
  Note: its record, its rows, and the laws' helpers at it.
-/
import Derived.Test.YtnicjpfkiblimaaKBase
import Derived.Test.YtnicjpfkiblimaaRows
import Derived.Deep.LoopGhost
import Derived.OwnWalk
import Derived.Deep.AppendLies
import Derived.Laws.OwnMore
set_option linter.all false
namespace Go.Proofs.Ytnicjpfkiblimaa
open Go.RowKit
structure RNote where
  fin : Bool
  owner : Int
  thing : Int
  old : Int
  new : Int
def NoteAt (w : World) (b o : Nat) (e : RNote) : Prop := w.cell? ⟨b, o, none⟩ = some (.bool e.fin) ∧ w.cell? ⟨b, o + 1, none⟩ = some (.int .i64 e.owner) ∧ w.cell? ⟨b, o + 2, none⟩ = some (.int .i64 e.thing) ∧ w.cell? ⟨b, o + 3, none⟩ = some (.int .i64 e.old) ∧ w.cell? ⟨b, o + 4, none⟩ = some (.int .i64 e.new)
/-- a row that can be read -/
def Notes (w : World) (v : Value) (l : List RNote) : Prop :=
  ∃ a cap, v = .slice a l.length cap ∧ l.length ≤ cap ∧ cap ≤ 9223372036854775807 ∧ (l = [] ∨ ∃ b off, a = some ⟨b, off, none⟩ ∧ b < w.heap.size ∧ ∀ i (h : i < l.length), NoteAt w b (off + i * 5) l[i])
theorem NoteAt.first {w : World} {b o : Nat} {e : RNote} (h : NoteAt w b o e) : b < w.heap.size := lt_cell h.1
theorem NoteAt.keep {w w' : World} {b o : Nat} {e : RNote} (h : NoteAt w b o e) (hb : Below w.heap.size w w') : NoteAt w' b o e := by
  have hlt : b < w.heap.size := h.first
  obtain ⟨h0, h1, h2, h3, h4⟩ := h
  exact ⟨(hb.cell (p := ⟨b, o, none⟩) hlt).trans h0, (hb.cell (p := ⟨b, o + 1, none⟩) hlt).trans h1, (hb.cell (p := ⟨b, o + 2, none⟩) hlt).trans h2, (hb.cell (p := ⟨b, o + 3, none⟩) hlt).trans h3, (hb.cell (p := ⟨b, o + 4, none⟩) hlt).trans h4⟩
theorem Notes.keep {w w' : World} {v : Value} {l : List RNote} (h : Notes w v l) (hb : Below w.heap.size w w') : Notes w' v l := by
  obtain ⟨a, cap, hv, h1, h2, h3⟩ := h
  refine ⟨a, cap, hv, h1, h2, ?_⟩
  rcases h3 with h3 | ⟨b, off, e, hlt, hc⟩
  · exact .inl h3
  · exact .inr ⟨b, off, e, Nat.lt_of_lt_of_le hlt hb.size, fun i hi => (hc i hi).keep hb⟩
theorem infoNote : (Try.prog.info? 41).map (fun i => (i.zero, i.size, i.bytes)) = some (some (.agg #[.bool false, .int .i64 0, .int .i64 0, .int .i64 0, .int .i64 0]), 5, 40) := by kernel_rfl
/-- the first k records of l lie in the cells -/
def ArrNote (cs : Array Value) (l : List RNote) (k : Nat) : Prop := ∀ j (hj : j < k) (hl : j < l.length), cs[j * 5]? = some (.bool l[j].fin) ∧ cs[j * 5 + 1]? = some (.int .i64 l[j].owner) ∧ cs[j * 5 + 2]? = some (.int .i64 l[j].thing) ∧ cs[j * 5 + 3]? = some (.int .i64 l[j].old) ∧ cs[j * 5 + 4]? = some (.int .i64 l[j].new)
theorem ArrNote.step {cs : Array Value} {l : List RNote} {k : Nat} (h : ArrNote cs l k) (hk : k < l.length) (hs : l.length * 5 ≤ cs.size) :
    ArrNote (((((cs.setIfInBounds (k * 5) (.bool l[k].fin)).setIfInBounds (k * 5 + 1) (.int .i64 l[k].owner)).setIfInBounds (k * 5 + 2) (.int .i64 l[k].thing)).setIfInBounds (k * 5 + 3) (.int .i64 l[k].old)).setIfInBounds (k * 5 + 4) (.int .i64 l[k].new)) l (k + 1) := by
  intro j hj hl
  by_cases hjk : j = k
  · subst hjk
    refine ⟨?_, ?_, ?_, ?_, ?_⟩
    · rw [Array.getElem?_setIfInBounds_ne (by omega), Array.getElem?_setIfInBounds_ne (by omega), Array.getElem?_setIfInBounds_ne (by omega), Array.getElem?_setIfInBounds_ne (by omega), Array.getElem?_setIfInBounds_self_of_lt (by omega)]
    · rw [Array.getElem?_setIfInBounds_ne (by omega), Array.getElem?_setIfInBounds_ne (by omega), Array.getElem?_setIfInBounds_ne (by omega), Array.getElem?_setIfInBounds_self_of_lt (by simp; omega)]
    · rw [Array.getElem?_setIfInBounds_ne (by omega), Array.getElem?_setIfInBounds_ne (by omega), Array.getElem?_setIfInBounds_self_of_lt (by simp; omega)]
    · rw [Array.getElem?_setIfInBounds_ne (by omega), Array.getElem?_setIfInBounds_self_of_lt (by simp; omega)]
    · rw [Array.getElem?_setIfInBounds_self_of_lt (by simp; omega)]
  · obtain ⟨h0, h1, h2, h3, h4⟩ := h j (by omega) hl
    refine ⟨?_, ?_, ?_, ?_, ?_⟩
    · rw [Array.getElem?_setIfInBounds_ne (by omega), Array.getElem?_setIfInBounds_ne (by omega), Array.getElem?_setIfInBounds_ne (by omega), Array.getElem?_setIfInBounds_ne (by omega), Array.getElem?_setIfInBounds_ne (by omega)]; exact h0
    · rw [Array.getElem?_setIfInBounds_ne (by omega), Array.getElem?_setIfInBounds_ne (by omega), Array.getElem?_setIfInBounds_ne (by omega), Array.getElem?_setIfInBounds_ne (by omega), Array.getElem?_setIfInBounds_ne (by omega)]; exact h1
    · rw [Array.getElem?_setIfInBounds_ne (by omega), Array.getElem?_setIfInBounds_ne (by omega), Array.getElem?_setIfInBounds_ne (by omega), Array.getElem?_setIfInBounds_ne (by omega), Array.getElem?_setIfInBounds_ne (by omega)]; exact h2
    · rw [Array.getElem?_setIfInBounds_ne (by omega), Array.getElem?_setIfInBounds_ne (by omega), Array.getElem?_setIfInBounds_ne (by omega), Array.getElem?_setIfInBounds_ne (by omega), Array.getElem?_setIfInBounds_ne (by omega)]; exact h3
    · rw [Array.getElem?_setIfInBounds_ne (by omega), Array.getElem?_setIfInBounds_ne (by omega), Array.getElem?_setIfInBounds_ne (by omega), Array.getElem?_setIfInBounds_ne (by omega), Array.getElem?_setIfInBounds_ne (by omega)]; exact h4
theorem Notes.block {w : World} {g : Nat} {cs : Array Value} {t : TypeId} {l : List RNote} {cap : Nat} (h : w.heap[g]? = some (.cells cs t (0, 0))) (ha : ArrNote cs l l.length) (hl : l.length ≤ cap) (hc : cap ≤ 9223372036854775807) :
    Notes w (.slice (some ⟨g, 0, none⟩) l.length cap) l :=
  ⟨_, cap, rfl, hl, hc, .inr ⟨g, 0, rfl, lt_block h, fun i hi => by
    obtain ⟨h0, h1, h2, h3, h4⟩ := ha i hi hi
    exact ⟨by rw [cell_block h, Nat.zero_add]; exact h0, by rw [cell_block h, Nat.zero_add]; exact h1, by rw [cell_block h, Nat.zero_add]; exact h2, by rw [cell_block h, Nat.zero_add]; exact h3, by rw [cell_block h, Nat.zero_add]; exact h4⟩⟩⟩
/-- the row of a copy: its block is new and whole -/
def NewNote (w w' : World) (v : Value) (l : List RNote) : Prop := ∃ g cap cs, v = .slice (some ⟨g, 0, none⟩) l.length cap ∧ w.heap.size ≤ g ∧ w'.heap[g]? = some (.cells cs 41 (0, 0)) ∧ l.length * 5 ≤ cs.size ∧ l.length ≤ cap ∧ cap ≤ 9223372036854775807
end Go.Proofs.Ytnicjpfkiblimaa
