/-
  validRows, of the program and of the specification; Clone, sorted, IndexOf.
-/
import Derived.Test.YtmlphdniiiijpaaInsI
set_option linter.all false
namespace Go.Proofs.Ytmlphdniiiijpaa
open Go.RowKit
def stepV (l : List Itm) (i : Nat) : Prop := ∀ h : i < l.length, okI l[i] = true ∧ ∀ h0 : 0 < i, (l[i - 1]'(by omega)).r < l[i].r
theorem vRows_iff (l : List Itm) : vRows l ↔ l.length ≤ 30 ∧ ∀ i, stepV l i := by
  constructor
  · rintro ⟨h1, h2, h3⟩
    exact ⟨h1, fun i h => ⟨h2 _ (List.getElem_mem h), fun h0 => List.pairwise_iff_getElem.1 h3 (i - 1) i (by omega) h (by omega)⟩⟩
  · rintro ⟨h1, h2⟩
    refine ⟨h1, fun x hx => ?_, ?_⟩
    · obtain ⟨i, hi, rfl⟩ := List.getElem_of_mem hx
      exact (h2 i hi).1
    · have key : ∀ d i (h : i + 1 + d < l.length), (l[i]'(by omega)).r < l[i + 1 + d].r := by
        intro d
        induction d with
        | zero => intro i h; exact (h2 (i + 1) h).2 (by omega)
        | succ d ih =>
          intro i h
          have h3 := ih i (by omega)
          have h4 := (h2 (i + 1 + (d + 1)) h).2 (by omega)
          simp only [show i + 1 + (d + 1) - 1 = i + 1 + d by omega] at h4
          omega
      refine List.pairwise_iff_getElem.2 fun i j hi hj hij => ?_
      have := key (j - i - 1) i (by omega)
      simp only [show i + 1 + (j - i - 1) = j by omega] at this
      exact this
theorem vr_bad {l : List Itm} {k : Nat} (hk : k < l.length) (h : okI l[k] = false) : ¬ vRows l := fun ho => by have := (((vRows_iff l).1 ho).2 k hk).1; rw [h] at this; cases this
theorem vr_bad2 {l : List Itm} {j : Nat} (hk : j + 1 < l.length) (h : l[j + 1].r ≤ (l[j]'(by omega)).r) : ¬ vRows l := fun ho => by
  have := (((vRows_iff l).1 ho).2 (j + 1) hk).2 (by omega)
  simp at this; omega
theorem sv_0 {l : List Itm} (hk : 0 < l.length) (h : okI l[0] = true) : stepV l 0 := fun _ => ⟨h, fun h0 => by omega⟩
theorem sv_s {l : List Itm} {j : Nat} (hk : j + 1 < l.length) (h : okI l[j + 1] = true) (h2 : (l[j]'(by omega)).r < l[j + 1].r) : stepV l (j + 1) := fun _ => ⟨h, fun h0 => by simpa using h2⟩
theorem sv_upto {l : List Itm} {k : Nat} (h : ∀ i, i < k → stepV l i) (h1 : stepV l k) : ∀ i, i < k + 1 → stepV l i := fun i hi => by
  by_cases hik : i = k
  · subst hik; exact h1
  · exact h i (by omega)
theorem sv_all {l : List Itm} (h : ∀ i, i < l.length → stepV l i) (hl : l.length ≤ 30) : vRows l := (vRows_iff l).2 ⟨hl, fun i => by
  by_cases hi : i < l.length
  · exact h i hi
  · exact fun h => absurd h hi⟩
theorem bret_no {w w' : World} {p : Prop} (h : ¬ p) (hb : Below w.heap.size w w') : BRet w p (.returned (.bool false)) w' := ⟨false, rfl, ⟨fun h' => absurd h' (by simp), fun h' => absurd h' h⟩, hb⟩
theorem bret_yes {w w' : World} {p : Prop} (h : p) (hb : Below w.heap.size w w') : BRet w p (.returned (.bool true)) w' := ⟨true, rfl, ⟨fun _ => h, fun _ => rfl⟩, hb⟩
end Go.Proofs.Ytmlphdniiiijpaa
