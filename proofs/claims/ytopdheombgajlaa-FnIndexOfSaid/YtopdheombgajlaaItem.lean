/-
  Items in memory; the measures, copies and comparisons of items in the laws.
-/
import Derived.Test.YtopdheombgajlaaRows
import Derived.Test.YtopdheombgajlaaBase
import Derived.Deep.LoopGhost
import Derived.Test.YtopdheombgajlaaQuiet
import Derived.Test.YtopdheombgajlaaMake
import Derived.OwnWalk
set_option linter.all false
namespace Go.Proofs.Ytopdheombgajlaa
open Go.RowKit
structure Itm where
  k : Int
  r : Int
def ItmAt (w : World) (b o : Nat) (e : Itm) : Prop := w.cell? ⟨b, o, none⟩ = some (.int .i64 e.k) ∧ w.cell? ⟨b, o + 1, none⟩ = some (.int .i64 e.r)
/-- a slice of items that can be read -/
def Itms (w : World) (v : Value) (l : List Itm) : Prop :=
  ∃ a cap, v = .slice a l.length cap ∧ l.length ≤ cap ∧ cap ≤ 9223372036854775807 ∧ (l = [] ∨ ∃ b off, a = some ⟨b, off, none⟩ ∧ b < w.heap.size ∧ ∀ i (h : i < l.length), ItmAt w b (off + i * 2) l[i])
theorem ItmAt.keep {w w' : World} {b o : Nat} {e : Itm} (h : ItmAt w b o e) (hb : Below w.heap.size w w') : ItmAt w' b o e := by
  have hlt : b < w.heap.size := lt_cell h.1
  exact ⟨(hb.cell (p := ⟨b, o, none⟩) hlt).trans h.1, (hb.cell (p := ⟨b, o + 1, none⟩) hlt).trans h.2⟩
theorem Itms.keep {w w' : World} {v : Value} {l : List Itm} (h : Itms w v l) (hb : Below w.heap.size w w') : Itms w' v l := by
  obtain ⟨a, cap, hv, h1, h2, h3⟩ := h
  refine ⟨a, cap, hv, h1, h2, ?_⟩
  rcases h3 with h3 | ⟨b, off, e, hlt, hc⟩
  · exact .inl h3
  · exact .inr ⟨b, off, e, Nat.lt_of_lt_of_le hlt hb.size, fun i hi => (hc i hi).keep hb⟩
def SzRet (w : World) (left : Int) (n : Nat) (e : Ending) (w' : World) : Prop := ∃ r : Int, e = .returned (.int .i64 r) ∧ -1 ≤ r ∧ r ≤ left ∧ (r < 0 ∨ (n : Int) ≤ left) ∧ Below w.heap.size w w'
theorem infoI : (Try.prog.info? 29).map (fun i => (i.zero, i.size, i.bytes)) = some (some (.agg #[.int .i64 0, .int .i64 0]), 2, 16) := by kernel_rfl
/-- the first k items of l lie in the cells -/
def ArrI (cs : Array Value) (l : List Itm) (k : Nat) : Prop := ∀ j (hj : j < k) (hl : j < l.length), cs[j * 2]? = some (.int .i64 l[j].k) ∧ cs[j * 2 + 1]? = some (.int .i64 l[j].r)
theorem ArrI.step {cs : Array Value} {l : List Itm} {k : Nat} (h : ArrI cs l k) (hk : k < l.length) (hs : l.length * 2 ≤ cs.size) :
    ArrI ((cs.setIfInBounds (k * 2) (.int .i64 l[k].k)).setIfInBounds (k * 2 + 1) (.int .i64 l[k].r)) l (k + 1) := by
  intro j hj hl
  by_cases hjk : j = k
  · subst hjk
    refine ⟨?_, ?_⟩
    · rw [Array.getElem?_setIfInBounds_ne (by omega), Array.getElem?_setIfInBounds_self_of_lt (by omega)]
    · rw [Array.getElem?_setIfInBounds_self_of_lt (by simp; omega)]
  · obtain ⟨h1, h2⟩ := h j (by omega) hl
    refine ⟨?_, ?_⟩
    · rw [Array.getElem?_setIfInBounds_ne (by omega), Array.getElem?_setIfInBounds_ne (by omega)]; exact h1
    · rw [Array.getElem?_setIfInBounds_ne (by omega), Array.getElem?_setIfInBounds_ne (by omega)]; exact h2
theorem itms_block {w : World} {g : Nat} {cs : Array Value} {t : TypeId} {l : List Itm} {cap : Nat} (h : w.heap[g]? = some (.cells cs t (0, 0))) (ha : ArrI cs l l.length) (hl : l.length ≤ cap) (hc : cap ≤ 9223372036854775807) :
    Itms w (.slice (some ⟨g, 0, none⟩) l.length cap) l :=
  ⟨_, cap, rfl, hl, hc, .inr ⟨g, 0, rfl, lt_block h, fun i hi => by
    obtain ⟨h1, h2⟩ := ha i hi hi
    exact ⟨by rw [cell_block h, Nat.zero_add]; exact h1, by rw [cell_block h, Nat.zero_add]; exact h2⟩⟩⟩
theorem bw_cell {w : World} {p : Addr} {v : Value} (hp : p.block < w.heap.size) (h : w.cell? p = some v) (z : BW w) : z.v.cell? p = some v := (z.h.cell hp).trans h
end Go.Proofs.Ytopdheombgajlaa
