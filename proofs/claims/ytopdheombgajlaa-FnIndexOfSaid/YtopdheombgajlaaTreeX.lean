/-
  with of the program.
-/
import Derived.Test.YtopdheombgajlaaTreeW
set_option linter.all false
namespace Go.Proofs.Ytopdheombgajlaa
open Go.RowKit
/-- what with has put together behind k leaves -/
def withK (t : List (List Itm)) (p q : Nat) (f : List Itm) : Nat → List (List Itm)
  | 0 => []
  | k + 1 => withK t p q f k ++ (if k = p then divL f else []) ++ (if k < p ∨ p + q ≤ k then [t.getD k []] else [])
theorem withK_eq {t : List (List Itm)} {p q : Nat} {f : List Itm} (hq : 1 ≤ q) : ∀ k, k ≤ t.length → withK t p q f k = t.take (min p k) ++ (if p < k then divL f else []) ++ (t.take k).drop (p + q) := by
  intro k
  induction k with
  | zero => intro _; simp [withK]
  | succ k ih =>
    intro hk
    rw [withK, ih (by omega)]
    have hg : t.getD k [] = t[k] := by rw [List.getD_eq_getElem?_getD, List.getElem?_eq_getElem (by omega)]; rfl
    have ht : t.take (k + 1) = t.take k ++ [t[k]] := List.take_succ_eq_append_getElem (by omega)
    rcases Nat.lt_trichotomy k p with h | h | h
    · rw [if_neg (show ¬ p < k by omega), if_neg (show ¬ k = p by omega), if_pos (.inl h), if_neg (show ¬ p < k + 1 by omega), Nat.min_eq_right (by omega), Nat.min_eq_right (by omega), hg,
        List.drop_eq_nil_of_le (by rw [List.length_take]; omega), List.drop_eq_nil_of_le (by rw [List.length_take]; omega), ht]
      simp
    · subst h
      rw [if_neg (show ¬ k < k by omega), if_pos rfl, if_neg (show ¬ (k < k ∨ k + q ≤ k) by omega), if_pos (show k < k + 1 by omega), Nat.min_self, Nat.min_eq_left (by omega),
        List.drop_eq_nil_of_le (by rw [List.length_take]; omega), List.drop_eq_nil_of_le (by rw [List.length_take]; omega)]
      simp
    · rw [if_pos h, if_neg (show ¬ k = p by omega), if_pos (show p < k + 1 by omega), Nat.min_eq_left (by omega), Nat.min_eq_left (by omega)]
      by_cases h2 : p + q ≤ k
      · rw [if_pos (.inr h2), hg, ht, List.drop_append_of_le_length (by rw [List.length_take]; omega)]
        simp
      · rw [if_neg (by omega), List.drop_eq_nil_of_le (by rw [List.length_take]; omega), List.drop_eq_nil_of_le (by rw [List.length_take]; omega)]
        simp
theorem withK_end {t : List (List Itm)} {p q : Nat} {f : List Itm} (hq : 1 ≤ q) (hp : p < t.length) : withK t p q f t.length = withT t p q f := by
  rw [withK_eq hq t.length (Nat.le_refl _), if_pos hp, Nat.min_eq_left (by omega), List.take_length]; rfl
theorem withK_len (t : List (List Itm)) (p q : Nat) (f : List Itm) : ∀ k, (withK t p q f k).length ≤ 3 * k
  | 0 => by simp [withK]
  | k + 1 => by
    have h1 := withK_len t p q f k
    have h2 := (divL_count f).1
    rw [withK, List.length_append, List.length_append]
    have a : (if k = p then divL f else []).length ≤ 2 := by split; exact h2; exact Nat.zero_le _
    have b : (if k < p ∨ p + q ≤ k then [t.getD k []] else []).length ≤ 1 := by split; exact Nat.le_refl 1; exact Nat.zero_le _
    omega
theorem withK_at {t : List (List Itm)} {p q : Nat} {f : List Itm} (hq : 1 ≤ q) : withK t p q f (p + 1) = withK t p q f p ++ divL f := by
  rw [withK, if_pos rfl, if_neg (by omega)]; simp
theorem withK_old {t : List (List Itm)} {p q k : Nat} {f : List Itm} (hk : k < t.length) (h : ¬ k = p) (h2 : k < p ∨ p + q ≤ k) : withK t p q f (k + 1) = withK t p q f k ++ [t[k]] := by
  rw [withK, if_neg h, if_pos h2, List.append_nil]
  congr 2
  rw [List.getD_eq_getElem?_getD, List.getElem?_eq_getElem hk]; rfl
theorem withK_gap {t : List (List Itm)} {p q k : Nat} {f : List Itm} (h : ¬ k = p) (h2 : ¬ (k < p ∨ p + q ≤ k)) : withK t p q f (k + 1) = withK t p q f k := by
  rw [withK, if_neg h, if_neg h2]; simp
theorem ownL_any {B : Nat} {w : World} {v : Value} {fs : List (List Itm)} (h : OwnL B w v fs) : ∃ a n c, v = .slice a n c := by
  obtain ⟨a, c, e, -⟩ := ownL_slc h
  exact ⟨a, _, c, e⟩
def LTRet (w : World) (fs : List (List Itm)) (e : Ending) (w' : World) : Prop := ∃ v', e = .returned (.agg #[v']) ∧ OwnL w.heap.size w' v' fs ∧ Below w.heap.size w w'
theorem cell_alloc {w : World} {p : Addr} (h : p.block < w.heap.size) (o : Obj) : (w.alloc o).cell? p = w.cell? p := World.cell?_of_block (w := w) (Below.heap_alloc w o p.block h)
theorem froz_alloc {w : World} {p : Addr} (h : p.block < w.heap.size) (o : Obj) : (w.alloc o).frozen? p = w.frozen? p := World.frozen?_of_block (w := w) (Below.heap_alloc w o p.block h)
end Go.Proofs.Ytopdheombgajlaa
