/-
  slices.BinarySearchFunc at items, by an item.
-/
import Derived.Test.YtopdheombgajlaaBsf
set_option linter.all false
namespace Go.Proofs.Ytopdheombgajlaa
open Go.RowKit
def BsI (l : List Itm) (x : Itm) (i j : Nat) : Prop := (∀ t (ht : t < l.length), t < i → lessP l[t] x) ∧ (∀ t (ht : t < l.length), j ≤ t → ¬ lessP l[t] x)
theorem BsI.low {l : List Itm} {x : Itm} {i j m : Nat} (hA : SrtI l) (h : BsI l x i j) (hm : m < l.length) (hlt : lessP l[m] x) : BsI l x (m + 1) j :=
  ⟨fun t ht htm => by
    by_cases c : t = m
    · subst c; exact hlt
    · exact lessP_trans (List.pairwise_iff_getElem.1 hA t m ht hm (by omega)) hlt, h.2⟩
theorem BsI.high {l : List Itm} {x : Itm} {i j m : Nat} (hA : SrtI l) (h : BsI l x i j) (hm : m < l.length) (hge : ¬ lessP l[m] x) : BsI l x i m :=
  ⟨h.1, fun t ht htm => by
    by_cases c : t = m
    · subst c; exact hge
    · exact fun hq => hge (lessP_trans (List.pairwise_iff_getElem.1 hA m t hm ht (by omega)) hq)⟩
theorem BsI.fin {l : List Itm} {x : Itm} {i : Nat} (hA : SrtI l) (h : BsI l x i i) (hi : i ≤ l.length) : posI l x = i ∧ (hasI l x = true ↔ ∃ hk : i < l.length, l[i] = x) := by
  have hp := posI_of x hi h.1 h.2
  refine ⟨hp, ?_⟩
  have := hasI_of hA x
  rw [this]
  subst hp
  exact Iff.rfl
theorem cmpI_neg (a b : Itm) : cmpI a b < 0 ↔ lessP a b := by
  unfold lessP
  rw [cmpI_less]
  simp
theorem cmpI_zero (a b : Itm) : cmpI a b = 0 ↔ a = b := by
  obtain ⟨a1, a2⟩ := a
  obtain ⟨b1, b2⟩ := b
  unfold cmpI cmpZ
  simp only [Itm.mk.injEq]
  split <;> split <;> (try split) <;> (try split) <;> omega
end Go.Proofs.Ytopdheombgajlaa
