/-
  Cell: the flat cells of a list, and the rows that a call owns.
-/
import Derived.Test.YtnicjpfkiblimaaKCell
import Derived.Test.YtnicjpfkiblimaaOwn
set_option linter.all false
namespace Go.Proofs.Ytnicjpfkiblimaa
open Go.RowKit
def celCells (l : List RCell) : List Value := l.flatMap fun e => [.int .i64 e.num, .int .i64 e.lsn]
theorem celCells_len (l : List RCell) : (celCells l).length = l.length * 2 := flat_len (enc := fun e : RCell => [.int .i64 e.num, .int .i64 e.lsn]) (k := 2) (fun _ => rfl) l
theorem celCells_app (l : List RCell) (e : RCell) : celCells (l ++ [e]) = celCells l ++ [.int .i64 e.num, .int .i64 e.lsn] := by simp [celCells]
theorem celCells_at (l : List RCell) (i : Nat) (h : i < l.length) : (celCells l)[i * 2]? = some (.int .i64 l[i].num) ∧ (celCells l)[i * 2 + 1]? = some (.int .i64 l[i].lsn) := by
  induction l generalizing i with
  | nil => simp at h
  | cons e l ih =>
    have hc : celCells (e :: l) = .int .i64 e.num :: .int .i64 e.lsn :: celCells l := rfl
    cases i with
    | zero => rw [hc]; exact ⟨rfl, rfl⟩
    | succ i =>
      obtain ⟨h0, h1⟩ := ih i (by simpa using h)
      rw [hc, show (i + 1) * 2 = i * 2 + 2 from by omega]
      exact ⟨by simpa using h0, by simpa using h1⟩
theorem celCells_one (l : List RCell) : ∀ u ∈ celCells l, u.oneCell' = true := by
  intro u hu
  obtain ⟨e, -, he⟩ := List.mem_flatMap.1 hu
  simp at he
  rcases he with rfl | rfl <;> rfl
theorem celCells_news {w : World} {b off : Nat} {l : List RCell} (h : ∀ i (h : i < l.length), CellAt w b (off + i * 2) l[i]) : ∀ j u, (celCells l)[j]? = some u → w.cell? ⟨b, off + j, none⟩ = some u := by
  intro j u hu
  have hj : j < l.length * 2 := by rw [← celCells_len]; exact (List.getElem?_eq_some_iff.1 hu).1
  obtain ⟨i, hi⟩ : ∃ i, j = i * 2 ∨ j = i * 2 + 1 := ⟨j / 2, by omega⟩
  obtain ⟨c0, c1⟩ := h i (by omega)
  obtain ⟨e0, e1⟩ := celCells_at l i (by omega)
  rcases hi with rfl | rfl
  · rw [← hu, e0]; exact c0
  · rw [← hu, e1]; exact c1
def OwnCl (B : Nat) (w : World) (v : Value) (l : List RCell) : Prop := w.ownsRow B 33 2 v l.length (celCells l)
theorem OwnCl.rows {B : Nat} {w : World} {v : Value} {l : List RCell} (h : OwnCl B w v l) : Cells w v l := by
  unfold OwnCl at h
  have h' := h
  rcases h.2 with ⟨rfl, hn⟩ | ⟨g, cap, cur, rfl, hb, hg, hnc, hcm, hcs, htake⟩
  · have : l = [] := List.length_eq_zero_iff.1 hn
    subst this
    exact ⟨none, 0, rfl, by simp, by omega, .inl rfl⟩
  · refine ⟨_, cap, rfl, hnc, by unfold maxLen at hcm; omega, .inr ⟨g, 0, rfl, lt_block hg, fun i hi => ?_⟩⟩
    obtain ⟨e0, e1⟩ := celCells_at l i hi
    rw [Nat.zero_add]
    exact ⟨by rw [World.ownsRow.cellAt h' _ (by omega)]; exact e0, by rw [World.ownsRow.cellAt h' _ (by omega)]; exact e1⟩
theorem OwnCl.keep {B : Nat} {w w' : World} {v : Value} {l : List RCell} (h : OwnCl B w v l) (hb : Below w.heap.size w w') : OwnCl B w' v l := by
  refine World.ownsRow.kept h (grown_below hb none) ?_
  cases hv : v.ownBlock <;> simp
theorem OwnCl.alloc {B : Nat} {w : World} {v : Value} {l : List RCell} (h : OwnCl B w v l) (o : Obj) : OwnCl B (w.alloc o) v l := World.ownsRow.alloc h o
end Go.Proofs.Ytnicjpfkiblimaa
