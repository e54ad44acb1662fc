/-
  slices.BinarySearchFunc at items: by the number of a row, and by an item.
-/
import Derived.Test.YtmlphdniiiijpaaOnl
set_option linter.all false
namespace Go.Proofs.Ytmlphdniiiijpaa
open Go.RowKit
theorem half_lt {i j : Nat} (h : i < j) : i ≤ (i + j) / 2 ∧ (i + j) / 2 < j := by omega
def BsR (l : List Itm) (n : Int) (i j : Nat) : Prop := (∀ t (ht : t < l.length), t < i → l[t].r < n) ∧ (∀ t (ht : t < l.length), j ≤ t → n ≤ l[t].r)
theorem BsR.low {l : List Itm} {n : Int} {i j m : Nat} (hA : AscR l) (h : BsR l n i j) (hm : m < l.length) (hlt : l[m].r < n) : BsR l n (m + 1) j :=
  ⟨fun t ht htm => by
    by_cases c : t = m
    · subst c; exact hlt
    · have := List.pairwise_iff_getElem.1 hA t m ht hm (by omega)
      unfold nextr at this; omega, h.2⟩
theorem BsR.high {l : List Itm} {n : Int} {i j m : Nat} (hA : AscR l) (h : BsR l n i j) (hm : m < l.length) (hge : n ≤ l[m].r) : BsR l n i m :=
  ⟨h.1, fun t ht htm => by
    by_cases c : t = m
    · subst c; exact hge
    · have := List.pairwise_iff_getElem.1 hA m t hm ht (by omega)
      unfold nextr at this; omega⟩
theorem BsR.fin {l : List Itm} {n : Int} {i : Nat} (hA : AscR l) (h : BsR l n i i) (hi : i ≤ l.length) : posR l n = i ∧ (hasR l n = true ↔ ∃ hk : i < l.length, l[i].r = n) :=
  ⟨posR_of hA n hi h.1 h.2, hasR_of hA n hi h.1 h.2⟩
def BsRet (w : World) (p : Nat) (b : Bool) (e : Ending) (w' : World) : Prop := e = .returned (.tuple #[.int .i64 (p : Int), .bool b]) ∧ Below w.heap.size w w'
end Go.Proofs.Ytmlphdniiiijpaa
