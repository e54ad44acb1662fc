/-
  Move: the flat cells of a list, and the rows that a call owns.
-/
import Derived.Test.YtppbmhlmbepneaaKMove
import Derived.Test.YtppbmhlmbepneaaOwn
set_option linter.all false
namespace Go.Proofs.Ytppbmhlmbepneaa
open Go.RowKit
def mvCells (l : List RMove) : List Value := l.flatMap fun e => [.bool e.scan, .bool e.gone, .int .i64 e.row, .int .i64 e.key]
theorem mvCells_len (l : List RMove) : (mvCells l).length = l.length * 4 := flat_len (enc := fun e : RMove => [.bool e.scan, .bool e.gone, .int .i64 e.row, .int .i64 e.key]) (k := 4) (fun _ => rfl) l
theorem mvCells_app (l : List RMove) (e : RMove) : mvCells (l ++ [e]) = mvCells l ++ [.bool e.scan, .bool e.gone, .int .i64 e.row, .int .i64 e.key] := by simp [mvCells]
theorem mvCells_at (l : List RMove) (i : Nat) (h : i < l.length) : (mvCells l)[i * 4]? = some (.bool l[i].scan) ∧ (mvCells l)[i * 4 + 1]? = some (.bool l[i].gone) ∧ (mvCells l)[i * 4 + 2]? = some (.int .i64 l[i].row) ∧ (mvCells l)[i * 4 + 3]? = some (.int .i64 l[i].key) := by
  induction l generalizing i with
  | nil => simp at h
  | cons e l ih =>
    have hc : mvCells (e :: l) = .bool e.scan :: .bool e.gone :: .int .i64 e.row :: .int .i64 e.key :: mvCells l := rfl
    cases i with
    | zero => rw [hc]; exact ⟨rfl, rfl, rfl, rfl⟩
    | succ i =>
      obtain ⟨h0, h1, h2, h3⟩ := ih i (by simpa using h)
      rw [hc, show (i + 1) * 4 = i * 4 + 4 from by omega]
      exact ⟨by simpa using h0, by simpa using h1, by simpa using h2, by simpa using h3⟩
theorem mvCells_one (l : List RMove) : ∀ u ∈ mvCells l, u.oneCell' = true := by
  intro u hu
  obtain ⟨e, -, he⟩ := List.mem_flatMap.1 hu
  simp at he
  rcases he with rfl | rfl | rfl | rfl <;> rfl
theorem mvCells_news {w : World} {b off : Nat} {l : List RMove} (h : ∀ i (h : i < l.length), MoveAt w b (off + i * 4) l[i]) : ∀ j u, (mvCells l)[j]? = some u → w.cell? ⟨b, off + j, none⟩ = some u := by
  intro j u hu
  have hj : j < l.length * 4 := by rw [← mvCells_len]; exact (List.getElem?_eq_some_iff.1 hu).1
  obtain ⟨i, hi⟩ : ∃ i, j = i * 4 ∨ j = i * 4 + 1 ∨ j = i * 4 + 2 ∨ j = i * 4 + 3 := ⟨j / 4, by omega⟩
  obtain ⟨c0, c1, c2, c3⟩ := h i (by omega)
  obtain ⟨e0, e1, e2, e3⟩ := mvCells_at l i (by omega)
  rcases hi with rfl | rfl | rfl | rfl
  · rw [← hu, e0]; exact c0
  · rw [← hu, e1]; exact c1
  · rw [← hu, e2]; exact c2
  · rw [← hu, e3]; exact c3
def OwnM (B : Nat) (w : World) (v : Value) (l : List RMove) : Prop := w.ownsRow B 42 4 v l.length (mvCells l)
theorem OwnM.rows {B : Nat} {w : World} {v : Value} {l : List RMove} (h : OwnM B w v l) : Moves w v l := by
  unfold OwnM at h
  have h' := h
  rcases h.2 with ⟨rfl, hn⟩ | ⟨g, cap, cur, rfl, hb, hg, hnc, hcm, hcs, htake⟩
  · have : l = [] := List.length_eq_zero_iff.1 hn
    subst this
    exact ⟨none, 0, rfl, by simp, by omega, .inl rfl⟩
  · refine ⟨_, cap, rfl, hnc, by unfold maxLen at hcm; omega, .inr ⟨g, 0, rfl, lt_block hg, fun i hi => ?_⟩⟩
    obtain ⟨e0, e1, e2, e3⟩ := mvCells_at l i hi
    rw [Nat.zero_add]
    exact ⟨by rw [World.ownsRow.cellAt h' _ (by omega)]; exact e0, by rw [World.ownsRow.cellAt h' _ (by omega)]; exact e1, by rw [World.ownsRow.cellAt h' _ (by omega)]; exact e2, by rw [World.ownsRow.cellAt h' _ (by omega)]; exact e3⟩
theorem OwnM.keep {B : Nat} {w w' : World} {v : Value} {l : List RMove} (h : OwnM B w v l) (hb : Below w.heap.size w w') : OwnM B w' v l := by
  refine World.ownsRow.kept h (grown_below hb none) ?_
  cases hv : v.ownBlock <;> simp
theorem OwnM.alloc {B : Nat} {w : World} {v : Value} {l : List RMove} (h : OwnM B w v l) (o : Obj) : OwnM B (w.alloc o) v l := World.ownsRow.alloc h o
end Go.Proofs.Ytppbmhlmbepneaa
