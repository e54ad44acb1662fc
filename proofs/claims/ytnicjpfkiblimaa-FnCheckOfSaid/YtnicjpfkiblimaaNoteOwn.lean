/-
  Note: the flat cells of a list, and the rows that a call owns.
-/
import Derived.Test.YtnicjpfkiblimaaKNote
import Derived.Test.YtnicjpfkiblimaaOwn
set_option linter.all false
namespace Go.Proofs.Ytnicjpfkiblimaa
open Go.RowKit
def notCells (l : List RNote) : List Value := l.flatMap fun e => [.bool e.fin, .int .i64 e.owner, .int .i64 e.thing, .int .i64 e.old, .int .i64 e.new]
theorem notCells_len (l : List RNote) : (notCells l).length = l.length * 5 := flat_len (enc := fun e : RNote => [.bool e.fin, .int .i64 e.owner, .int .i64 e.thing, .int .i64 e.old, .int .i64 e.new]) (k := 5) (fun _ => rfl) l
theorem notCells_app (l : List RNote) (e : RNote) : notCells (l ++ [e]) = notCells l ++ [.bool e.fin, .int .i64 e.owner, .int .i64 e.thing, .int .i64 e.old, .int .i64 e.new] := by simp [notCells]
theorem notCells_at (l : List RNote) (i : Nat) (h : i < l.length) : (notCells l)[i * 5]? = some (.bool l[i].fin) ∧ (notCells l)[i * 5 + 1]? = some (.int .i64 l[i].owner) ∧ (notCells l)[i * 5 + 2]? = some (.int .i64 l[i].thing) ∧ (notCells l)[i * 5 + 3]? = some (.int .i64 l[i].old) ∧ (notCells l)[i * 5 + 4]? = some (.int .i64 l[i].new) := by
  induction l generalizing i with
  | nil => simp at h
  | cons e l ih =>
    have hc : notCells (e :: l) = .bool e.fin :: .int .i64 e.owner :: .int .i64 e.thing :: .int .i64 e.old :: .int .i64 e.new :: notCells l := rfl
    cases i with
    | zero => rw [hc]; exact ⟨rfl, rfl, rfl, rfl, rfl⟩
    | succ i =>
      obtain ⟨h0, h1, h2, h3, h4⟩ := ih i (by simpa using h)
      rw [hc, show (i + 1) * 5 = i * 5 + 5 from by omega]
      exact ⟨by simpa using h0, by simpa using h1, by simpa using h2, by simpa using h3, by simpa using h4⟩
theorem notCells_one (l : List RNote) : ∀ u ∈ notCells l, u.oneCell' = true := by
  intro u hu
  obtain ⟨e, -, he⟩ := List.mem_flatMap.1 hu
  simp at he
  rcases he with rfl | rfl | rfl | rfl | rfl <;> rfl
theorem notCells_news {w : World} {b off : Nat} {l : List RNote} (h : ∀ i (h : i < l.length), NoteAt w b (off + i * 5) l[i]) : ∀ j u, (notCells l)[j]? = some u → w.cell? ⟨b, off + j, none⟩ = some u := by
  intro j u hu
  have hj : j < l.length * 5 := by rw [← notCells_len]; exact (List.getElem?_eq_some_iff.1 hu).1
  obtain ⟨i, hi⟩ : ∃ i, j = i * 5 ∨ j = i * 5 + 1 ∨ j = i * 5 + 2 ∨ j = i * 5 + 3 ∨ j = i * 5 + 4 := ⟨j / 5, by omega⟩
  obtain ⟨c0, c1, c2, c3, c4⟩ := h i (by omega)
  obtain ⟨e0, e1, e2, e3, e4⟩ := notCells_at l i (by omega)
  rcases hi with rfl | rfl | rfl | rfl | rfl
  · rw [← hu, e0]; exact c0
  · rw [← hu, e1]; exact c1
  · rw [← hu, e2]; exact c2
  · rw [← hu, e3]; exact c3
  · rw [← hu, e4]; exact c4
def OwnNt (B : Nat) (w : World) (v : Value) (l : List RNote) : Prop := w.ownsRow B 41 5 v l.length (notCells l)
theorem OwnNt.rows {B : Nat} {w : World} {v : Value} {l : List RNote} (h : OwnNt B w v l) : Notes w v l := by
  unfold OwnNt at h
  have h' := h
  rcases h.2 with ⟨rfl, hn⟩ | ⟨g, cap, cur, rfl, hb, hg, hnc, hcm, hcs, htake⟩
  · have : l = [] := List.length_eq_zero_iff.1 hn
    subst this
    exact ⟨none, 0, rfl, by simp, by omega, .inl rfl⟩
  · refine ⟨_, cap, rfl, hnc, by unfold maxLen at hcm; omega, .inr ⟨g, 0, rfl, lt_block hg, fun i hi => ?_⟩⟩
    obtain ⟨e0, e1, e2, e3, e4⟩ := notCells_at l i hi
    rw [Nat.zero_add]
    exact ⟨by rw [World.ownsRow.cellAt h' _ (by omega)]; exact e0, by rw [World.ownsRow.cellAt h' _ (by omega)]; exact e1, by rw [World.ownsRow.cellAt h' _ (by omega)]; exact e2, by rw [World.ownsRow.cellAt h' _ (by omega)]; exact e3, by rw [World.ownsRow.cellAt h' _ (by omega)]; exact e4⟩
theorem OwnNt.keep {B : Nat} {w w' : World} {v : Value} {l : List RNote} (h : OwnNt B w v l) (hb : Below w.heap.size w w') : OwnNt B w' v l := by
  refine World.ownsRow.kept h (grown_below hb none) ?_
  cases hv : v.ownBlock <;> simp
theorem OwnNt.alloc {B : Nat} {w : World} {v : Value} {l : List RNote} (h : OwnNt B w v l) (o : Obj) : OwnNt B (w.alloc o) v l := World.ownsRow.alloc h o
end Go.Proofs.Ytnicjpfkiblimaa
