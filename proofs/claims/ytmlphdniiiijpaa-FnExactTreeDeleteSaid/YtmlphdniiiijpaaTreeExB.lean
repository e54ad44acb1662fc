/-
  What the walks of the exact laws of trees share.
-/
import Derived.Test.YtmlphdniiiijpaaTreeTo
import Derived.Test.YtmlphdniiiijpaaTreeSL
import Derived.Test.YtmlphdniiiijpaaTreeLd2
import Derived.Deep.DeepCutAuto
import Derived.Deep.RegionHeld3
set_option linter.all false
namespace Go.Proofs.Ytmlphdniiiijpaa
open Go.RowKit
theorem own_box {B size n g : Nat} {e ty : TypeId} {w : World} {v u : Value} {xs : List Value} {cs : Array Value} (h : w.ownsRow B e size v n xs) (hb : w.heap[g]? = some (.cells cs ty (0, 0))) (hne : ty ≠ e) : (w.setCell ⟨g, 0, none⟩ u).ownsRow B e size v n xs :=
  own_by h (grown_setCell _ _ _ _) (fun q => by
    rcases h.2 with ⟨rfl, -⟩ | ⟨gr, cap, cur, rfl, -, hg, -⟩
    · simp [Value.ownBlock] at q
    · have q : gr = g := by injection q
      subst q
      rw [hb] at hg
      injection hg with hg
      injection hg with _ hg _
      exact hne hg)
theorem OwnL.boxT {B g : Nat} {w : World} {v u : Value} {fs : List (List Itm)} {cs : Array Value} (h : OwnL B w v fs) (hb : w.heap[g]? = some (.cells cs 25 (0, 0))) : OwnL B (w.setCell ⟨g, 0, none⟩ u) v fs := by
  obtain ⟨xs, ho, hx, ha⟩ := h
  exact ⟨xs, own_box ho hb (by decide), hx.map fun _ _ _ _ ho => own_box ho hb (by decide), ha⟩
theorem chg_n {t : List (List Itm)} {x : Itm} {r : List (List Itm)} {b : Bool} (h : ChgOf (insOk t x) (insT t x) r b) : (flatT r).length ≤ 30 := by
  by_cases c : insOk t x
  · rw [(h.1 c).2]; exact (VT.ins c.1 c.2.1 c.2.2.1 c.2.2.2).n
  · rw [(h.2 c).2]; exact Nat.zero_le _
theorem chgD_n {t : List (List Itm)} {x : Itm} {r : List (List Itm)} {b : Bool} (h : ChgOf (delOk t x) (delT t x) r b) : (flatT r).length ≤ 30 := by
  by_cases c : delOk t x
  · rw [(h.1 c).2]; exact (VT.del c.1 c.2).n
  · rw [(h.2 c).2]; exact Nat.zero_le _
theorem MkT.any {lo hi : Nat} {w : World} {v : Value} {t : List (List Itm)} (h : MkT lo hi w v t) : ∃ a n c, v = .slice a n c := by
  obtain ⟨a, c, e, -⟩ := h
  exact ⟨a, _, c, e⟩
theorem Lvs.any {w : World} {v : Value} {t : List (List Itm)} (h : Lvs w v t) : ∃ a n c, v = .slice a n c := by
  obtain ⟨a, c, e, -⟩ := h
  exact ⟨a, _, c, e⟩
/-- of an owned tree in a world that grew after it, the blocks are known -/
theorem OwnL.mkAt {B hi : Nat} {w : World} {v : Value} {t : List (List Itm)} (h : OwnL B w v t) (hh : w.heap.size ≤ hi) : MkT B hi w v t := h.mk.mono (Nat.le_refl _) hh
end Go.Proofs.Ytmlphdniiiijpaa
