/-
  Rows of numbers: eqIntS, markIntS, heldIntS.
-/
import Derived.Test.YtnicjpfkiblimaaKBase
import Derived.Deep.LoopGhost
import Derived.OwnWalk
import Derived.Deep.AppendLies
import Derived.Laws.OwnMore
import Derived.BigQuiet
import Derived.Deep.QuietTactic
set_option linter.all false
namespace Go.Proofs.Ytnicjpfkiblimaa
open Go.RowKit
/-- a row of numbers that the call owns -/
def OwnN (B : Nat) (w : World) (v : Value) (ns : List Int) : Prop := w.ownsRow B 3 1 v ns.length (ns.map (Value.int .i64))
/-- a row of numbers that can be read -/
def Nums (w : World) (v : Value) (ns : List Int) : Prop :=
  ∃ a cap, v = .slice a ns.length cap ∧ ns.length ≤ cap ∧ cap ≤ 9223372036854775807 ∧ (ns = [] ∨ ∃ b off, a = some ⟨b, off, none⟩ ∧ b < w.heap.size ∧ ∀ i (h : i < ns.length), w.cell? ⟨b, off + i, none⟩ = some (.int .i64 ns[i]))
theorem Nums.keep {w w' : World} {v : Value} {ns : List Int} (h : Nums w v ns) (hb : Below w.heap.size w w') : Nums w' v ns := by
  obtain ⟨a, cap, hv, h1, h2, h3⟩ := h
  refine ⟨a, cap, hv, h1, h2, ?_⟩
  rcases h3 with h3 | ⟨b, off, e, hlt, hc⟩
  · exact .inl h3
  · exact .inr ⟨b, off, e, Nat.lt_of_lt_of_le hlt hb.size, fun i hi => (hb.cell (p := ⟨b, off + i, none⟩) hlt).trans (hc i hi)⟩
theorem OwnN.keep {B : Nat} {w w' : World} {v : Value} {ns : List Int} (h : OwnN B w v ns) (hb : Below w.heap.size w w') : OwnN B w' v ns := by
  refine World.ownsRow.kept h (grown_below hb none) ?_
  cases hv : v.ownBlock <;> simp
theorem infoN : (Try.prog.info? 3).map (fun i => (i.zero, i.size, i.bytes)) = some (some (.int .i64 0), 1, 8) := by kernel_rfl
/-- a row of numbers that begins a block -/
def RowN (g : Nat) (w : World) (v : Value) (ns : List Int) : Prop := ∃ a cap, v = .slice a ns.length cap ∧ ns.length ≤ cap ∧ cap ≤ 9223372036854775807 ∧
  (ns = [] ∨ a = some ⟨g, 0, none⟩ ∧ ∃ cs, w.heap[g]? = some (.cells cs 3 (0, 0)) ∧ ns.length ≤ cs.size ∧ ∀ j (hj : j < ns.length), cs[j]? = some (.int .i64 ns[j]))
theorem RowN.kept {g h : Nat} {w w' : World} {v : Value} {l : List Int} (k : RowN g w v l) (hg : w.grownBy w' (some h)) (hne : l ≠ [] → g ≠ h) : RowN g w' v l := by
  obtain ⟨a, cap, hv, h1, h2, h3⟩ := k
  refine ⟨a, cap, hv, h1, h2, ?_⟩
  rcases h3 with h3 | ⟨ha, cs, hb, hs, hc⟩
  · exact .inl h3
  · by_cases hl : l = []
    · exact .inl hl
    · exact .inr ⟨ha, cs, (hg.block g (lt_block hb) (fun e => hne hl (by injection e))).trans hb, hs, hc⟩
theorem RowN.keep {g : Nat} {w w' : World} {v : Value} {l : List Int} (k : RowN g w v l) (hb : Below w.heap.size w w') : RowN g w' v l := by
  obtain ⟨a, cap, hv, h1, h2, h3⟩ := k
  refine ⟨a, cap, hv, h1, h2, ?_⟩
  rcases h3 with h3 | ⟨ha, cs, hk, hs, hc⟩
  · exact .inl h3
  · exact .inr ⟨ha, cs, blk_own hb hk, hs, hc⟩
theorem RowN.nums {g : Nat} {w : World} {v : Value} {l : List Int} (k : RowN g w v l) : Nums w v l := by
  obtain ⟨a, cap, rfl, h1, h2, h3⟩ := k
  rcases h3 with rfl | ⟨rfl, cs, hb, hs, hc⟩
  · exact ⟨a, cap, rfl, h1, h2, .inl rfl⟩
  · exact ⟨_, cap, rfl, h1, h2, .inr ⟨g, 0, rfl, lt_block hb, fun i hi => by rw [cell_block hb, Nat.zero_add]; exact hc i hi⟩⟩
theorem OwnN.row {B : Nat} {w : World} {v : Value} {l : List Int} (h : OwnN B w v l) : ∃ g, B ≤ g ∧ (l ≠ [] → g < w.heap.size) ∧ RowN g w v l := by
  unfold OwnN at h
  have h' := h
  rcases h.2 with ⟨rfl, hn⟩ | ⟨g, cap, cur, rfl, hb, hg, hnc, hcm, hcs, htake⟩
  · have : l = [] := List.length_eq_zero_iff.1 hn
    subst this
    exact ⟨B, Nat.le_refl _, fun hlt => absurd rfl hlt, none, 0, rfl, by simp, by omega, .inl rfl⟩
  · refine ⟨g, hb, fun _ => lt_block hg, _, cap, rfl, hnc, by unfold maxLen at hcm; omega, .inr ⟨rfl, cur, hg, by rw [hcs]; omega, fun j hj => ?_⟩⟩
    rw [← cell_block hg j, World.ownsRow.cellAt h' j (by omega)]
    simp [hj]
theorem OwnN.nums {B : Nat} {w : World} {v : Value} {l : List Int} (h : OwnN B w v l) : Nums w v l := by
  obtain ⟨g, -, -, hr⟩ := h.row
  exact hr.nums
def markN (m n : Nat) : List Int := (List.range n).map fun i => ((m + i : Nat) : Int)
theorem markN_len (m n : Nat) : (markN m n).length = n := by simp [markN]
theorem markN_at {m n k : Nat} (h : k < (markN m n).length) : (markN m n)[k] = ((m + k : Nat) : Int) := by simp [markN]
theorem nums_step {cs : Array Value} {m n k : Nat} (h : ∀ j, j < k → cs[j]? = some (.int .i64 ((m + j : Nat) : Int))) (hs : n ≤ cs.size) (hk : k < n) : ∀ j, j < k + 1 → (cs.setIfInBounds k (.int .i64 ((m + k : Nat) : Int)))[j]? = some (.int .i64 ((m + j : Nat) : Int)) := by
  intro j hj
  by_cases hjk : j = k
  · subst hjk; rw [Array.getElem?_setIfInBounds_self_of_lt (by omega)]
  · rw [Array.getElem?_setIfInBounds_ne (by omega)]; exact h j (by omega)
def MarkNRet (w : World) (m g : Nat) (v : Value) (n : Nat) (e : Ending) (w' : World) : Prop :=
  e = .returned (.int .i64 ((m + n : Nat) : Int)) ∧ w.grownBy w' (some g) ∧ RowN g w' v (markN m n)
end Go.Proofs.Ytnicjpfkiblimaa
