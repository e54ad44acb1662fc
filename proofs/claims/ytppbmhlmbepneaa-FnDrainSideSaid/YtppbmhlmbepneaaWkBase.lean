/-
  What the walks of the weak laws share.
-/
import Derived.Test.YtppbmhlmbepneaaClash
import Derived.Test.YtppbmhlmbepneaaEqIM
import Derived.Test.YtppbmhlmbepneaaOnl3
import Derived.Test.YtppbmhlmbepneaaMovesGen
set_option linter.all false
namespace Go.Proofs.Ytppbmhlmbepneaa
open Go.RowKit
theorem chs_step {ms : List RMove} {k : Nat} (hk : k < ms.length) : chs (ms.take (k + 1)) = chs (ms.take k) ++ (if isCh ms[k] then [ms[k]] else []) := by
  unfold chs
  rw [List.take_succ_eq_append_getElem hk, List.filter_append]
  simp [List.filter_cons]
theorem moves_take {w : World} {a : Option Addr} {n c : Nat} {ms : List RMove} (h : Moves w (.slice a n c) ms) (k : Nat) (hk : k ≤ ms.length) : Moves w (.slice a k c) (ms.take k) := by
  obtain ⟨a', c', he, hl, hc, hd⟩ := h
  injection he with h1 h2 h3
  subst h1 h3
  have hlen : (ms.take k).length = k := by rw [List.length_take]; omega
  refine ⟨a, c, by rw [hlen], by omega, hc, ?_⟩
  rcases hd with rfl | ⟨b, off, rfl, hb, hcell⟩
  · exact .inl (by simp)
  · refine .inr ⟨b, off, rfl, hb, fun i hi => ?_⟩
    rw [hlen] at hi
    have := hcell i (by omega)
    rw [List.getElem_take]
    exact this
theorem moves_cap {w : World} {a : Option Addr} {n c : Nat} {ms : List RMove} (h : Moves w (.slice a n c) ms) : ms.length ≤ c ∧ c ≤ 9223372036854775807 := by
  obtain ⟨a', c', he, hl, hc, hd⟩ := h
  injection he with h1 h2 h3
  subst h3
  exact ⟨hl, hc⟩
/-- pairs of different keys -/
def Pairs (r : List Itm) (i : Nat) : Prop := ∀ a b (ha : a < r.length) (hb : b < a), a < i → r[a].k ≠ (r[b]'(by omega)).k
def PairsAt (r : List Itm) (i j : Nat) : Prop := ∀ b (hi : i < r.length) (hb : b < i), b < j → r[i].k ≠ (r[b]'(by omega)).k
theorem pairs_0 (r : List Itm) : Pairs r 0 := fun a b _ _ h => by omega
theorem pairsAt_0 (r : List Itm) (i : Nat) : PairsAt r i 0 := fun b _ _ h => by omega
theorem pairsAt_step {r : List Itm} {i j : Nat} (h : PairsAt r i j) (hj : j < i) (hi : i < r.length) (hne : ¬ r[i].k = (r[j]'(by omega)).k) : PairsAt r i (j + 1) := fun b hi hb hbj => by
  rcases Nat.lt_or_ge b j with q | q
  · exact h b hi hb q
  · obtain rfl : b = j := by omega
    exact hne
theorem pairs_step {r : List Itm} {i : Nat} (h : Pairs r i) (h' : PairsAt r i i) : Pairs r (i + 1) := fun a b ha hb hai => by
  rcases Nat.lt_or_ge a i with q | q
  · exact h a b ha hb q
  · obtain rfl : a = i := by omega
    exact h' b ha hb hb
end Go.Proofs.Ytppbmhlmbepneaa
