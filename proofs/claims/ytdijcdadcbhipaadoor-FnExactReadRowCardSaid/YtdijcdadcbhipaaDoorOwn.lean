/-
  Rows that a call owns, cell by cell: what a store of many cells leaves, and what lies in the row. No program stands here.
-/
import Derived.Test.YtdijcdadcbhipaaDoorRange
import Derived.OwnWalk
import Derived.Deep.AppendLies
import Derived.Deep.RegionLaw
import Derived.Laws.OwnMore
import Derived.Laws.IdiomCopy
import Derived.Lib.SliceRun
set_option linter.all false
namespace Go.Proofs.YtdijcdadcbhipaaDoor
open Go.RowKit
def putC (cs : Array Value) : Nat → List Value → Array Value
  | _, [] => cs
  | o, v :: r => putC (cs.setIfInBounds o v) (o + 1) r
theorem putC_size : ∀ (vs : List Value) (o : Nat) (cs : Array Value), (putC cs o vs).size = cs.size
  | [], _, _ => rfl
  | v :: r, o, cs => by rw [putC, putC_size r]; simp
theorem putC_out : ∀ (vs : List Value) (o : Nat) (cs : Array Value) (j : Nat), (j < o ∨ o + vs.length ≤ j) → (putC cs o vs)[j]? = cs[j]?
  | [], _, _, _, _ => rfl
  | v :: r, o, cs, j, h => by
    simp only [List.length_cons] at h
    rw [putC, putC_out r (o + 1) _ j (by omega), Array.getElem?_setIfInBounds_ne (by omega)]
theorem putC_in : ∀ (vs : List Value) (o : Nat) (cs : Array Value) (j : Nat), o + vs.length ≤ cs.size → j < vs.length → (putC cs o vs)[o + j]? = vs[j]?
  | [], _, _, _, _, h => by simp at h
  | v :: r, o, cs, j, h, hj => by
    simp only [List.length_cons] at h hj
    cases j with
    | zero => rw [putC, putC_out r (o + 1) _ _ (by omega), Nat.add_zero, Array.getElem?_setIfInBounds_self_of_lt (by omega)]; rfl
    | succ j => rw [putC, show o + (j + 1) = (o + 1) + j by omega, putC_in r (o + 1) _ j (by simp; omega) (by omega)]; rfl
theorem putC_at {vs : List Value} {o : Nat} {cs : Array Value} {j : Nat} (h : o + vs.length ≤ cs.size) (h1 : o ≤ j) (h2 : j < o + vs.length) : (putC cs o vs)[j]? = vs[j - o]? := by
  obtain ⟨t, rfl⟩ : ∃ t, j = o + t := ⟨j - o, by omega⟩
  rw [putC_in vs o cs t h (by omega), Nat.add_sub_cancel_left]
theorem heap_setCells {b : Nat} {t : TypeId} {f : Nat × Nat} : ∀ (vs : List Value) (o : Nat) {w : World} {cs : Array Value}, w.heap[b]? = some (.cells cs t f) → (w.setCells b o vs).heap[b]? = some (.cells (putC cs o vs) t f)
  | [], _, _, _, h => h
  | v :: r, o, w, cs, h => heap_setCells r (o + 1) (set_block h o v)
theorem grown_setCells (g : Nat) : ∀ (vs : List Value) (o : Nat) {a w : World}, a.grownBy w (some g) → a.grownBy (w.setCells g o vs) (some g)
  | [], _, _, _, h => h
  | v :: r, o, _, w, h => grown_setCells g r (o + 1) (grown_trans h (grown_setCell w g o v))
theorem size_setCells (w : World) (g o : Nat) (vs : List Value) : (w.setCells g o vs).heap.size = w.heap.size := by
  induction vs generalizing o w with
  | nil => rfl
  | cons v r ih => show ((w.setCell _ v).setCells g (o + 1) r).heap.size = _; rw [ih]; simp [World.setCell]
theorem own_of {B g n cap size : Nat} {e : TypeId} {w : World} {cur : Array Value} {xs : List Value} (hB : B ≤ g) (h : w.heap[g]? = some (.cells cur e (0, 0))) (hs : cur.size = cap * size) (hc : cap ≤ maxLen) (hn : n ≤ cap) (hl : xs.length = n * size)
    (hx : ∀ j, j < xs.length → cur[j]? = xs[j]?) : w.ownsRow B e size (.slice (some ⟨g, 0, none⟩) n cap) n xs := by
  refine ⟨hl, .inr ⟨g, cap, cur, rfl, hB, h, hn, hc, hs, ?_⟩⟩
  apply List.ext_getElem?
  intro j
  by_cases hj : j < xs.length
  · rw [List.getElem?_take, if_pos (by omega), Array.getElem?_toList]; exact hx j hj
  · rw [List.getElem?_take, if_neg (by omega), List.getElem?_eq_none (by omega)]
theorem own_at {B g n cap size : Nat} {e : TypeId} {w : World} {xs : List Value} (h : w.ownsRow B e size (.slice (some ⟨g, 0, none⟩) n cap) n xs) :
    ∃ cur, w.heap[g]? = some (.cells cur e (0, 0)) ∧ cur.size = cap * size ∧ cap ≤ maxLen ∧ n ≤ cap ∧ B ≤ g ∧ xs.length = n * size ∧ ∀ j, j < xs.length → cur[j]? = xs[j]? := by
  obtain ⟨hl, h⟩ := h
  rcases h with ⟨h, _⟩ | ⟨g', cap', cur, h, hB, hg, hn, hc, hs, ht⟩
  · cases h
  · injection h with h1 h2 h3
    injection h1 with h1
    injection h1 with h1 _ _
    subst h1; subst h3
    refine ⟨cur, hg, hs, hc, hn, hB, hl, fun j hj => ?_⟩
    rw [← ht, List.getElem?_take, if_pos (by omega), Array.getElem?_toList]
theorem run_clear_one {P : Program} (w : World) (t e ty : TypeId) (z : Value) (ht : P.underlying t = some (.slice e)) (hv : ∀ w, (zeroValue e).run P w = .ok z w) (h1 : ∀ v ∈ z.cells.toList, v.oneCell' = true) (b o c : Nat)
    (hc : ∀ j, j < z.cells.size → (w.cell? ⟨b, o + j, none⟩).isSome = true) (hf : ∀ j, j < z.cells.size → w.frozen? ⟨b, o + j, none⟩ = false) :
    (Builtin.clear_ #[t] ty #[.slice (some ⟨b, o, none⟩) 1 c]).run P w = .ok (.tuple #[]) (w.setCells b o z.cells.toList) := by
  have hzc : (Builtin.zeroCells z.cells 1).toList = z.cells.toList := by
    congr 1
    apply Array.ext
    · simp [Builtin.zeroCells]
    · intro i h1 h2
      simp [Builtin.zeroCells, Nat.mod_eq_of_lt h2, getElem!_pos z.cells i h2]
  have hst := run_storeCells_cells (P := P) b o z.cells.toList 0 w (by simpa using hc) (by simpa using hf) h1
  simp only [Nat.add_zero] at hst
  simp [Builtin.clear_, run_underlying ht, hv, hzc, hst]
/-- a list of records as cells -/
theorem flat_len {α : Type} {enc : α → List Value} {k : Nat} (h : ∀ x, (enc x).length = k) (l : List α) : (l.flatMap enc).length = l.length * k := by
  induction l with
  | nil => simp
  | cons x l ih => rw [List.flatMap_cons, List.length_append, h, ih, List.length_cons, Nat.add_mul]; omega
theorem flat_take {α : Type} {enc : α → List Value} {k : Nat} (h : ∀ x, (enc x).length = k) (l : List α) (i : Nat) (hi : i ≤ l.length) : (l.take i).flatMap enc = (l.flatMap enc).take (i * k) := by
  have e : l.flatMap enc = (l.take i).flatMap enc ++ (l.drop i).flatMap enc := by rw [← List.flatMap_append, List.take_append_drop]
  rw [e, List.take_left']
  rw [flat_len h, List.length_take]; congr 1; omega
theorem flat_drop {α : Type} {enc : α → List Value} {k : Nat} (h : ∀ x, (enc x).length = k) (l : List α) (i : Nat) (hi : i ≤ l.length) : (l.drop i).flatMap enc = (l.flatMap enc).drop (i * k) := by
  have e : l.flatMap enc = (l.take i).flatMap enc ++ (l.drop i).flatMap enc := by rw [← List.flatMap_append, List.take_append_drop]
  rw [e, List.drop_left']
  rw [flat_len h, List.length_take]; congr 1; omega
end Go.Proofs.YtdijcdadcbhipaaDoor
