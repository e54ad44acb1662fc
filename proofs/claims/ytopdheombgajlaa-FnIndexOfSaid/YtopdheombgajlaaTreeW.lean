/-
  divided and with of the program: leaves in place of others.
-/
import Derived.Test.YtopdheombgajlaaTreeO
import Derived.Test.YtopdheombgajlaaQuiet
import Derived.Deep.RegionLaw
set_option linter.all false
namespace Go.Proofs.Ytopdheombgajlaa
open Go.RowKit
theorem ownL_block {B b : Nat} {W : World} {ys : List Value} {gs : List (List Itm)} (hb : b = W.heap.size) (hB : B ≤ W.heap.size) (hx : LvsX B W ys gs) (hn : gs.length ≤ 1000) :
    OwnL B (W.alloc (.cells ys.toArray 23)) (.slice (some ⟨b, 0, none⟩) gs.length gs.length) gs := by
  subst hb
  refine ⟨ys, own_of hB (blk_alloc W _) (by simp [hx.len]) (by unfold maxLen; omega) (Nat.le_refl _) (by rw [hx.len]; omega) (fun j _ => by simp), hx.keep (below_box W _), fun i lv e k h1 h2 => ?_⟩
  have h2 : W.heap.size = k := by simpa [Value.ownBlock] using h2
  have := (hx.lt e h1).2
  omega
theorem lvs_two {B : Nat} {w1 w2 : World} {a b : Value} {f g : List Itm} (h1 : OwnI B w1 a f) (hb : Below w1.heap.size w1 w2) (h2 : OwnI w1.heap.size w2 b g) (hB : B ≤ w1.heap.size) : LvsX B w2 [a, b] [f, g] ∧ LvsX B w2 [b, a] [g, f] := by
  have ha : Apart a b := fun k e1 e2 => by
    have := (World.ownsRow.lt h1 k e1).2
    have := (World.ownsRow.lt h2 k e2).1
    omega
  have ha' : Apart b a := fun k e1 e2 => ha k e2 e1
  constructor
  · refine ⟨rfl, fun i hi => ?_, fun i j lv lu hij e1 e2 => ?_⟩
    · match i, hi with
      | 0, _ => exact ⟨a, rfl, h1.keep hb⟩
      | 1, _ => exact ⟨b, rfl, own_mono h2 hB⟩
    · have hj : j < 2 := (List.getElem?_eq_some_iff.1 e2).1
      obtain rfl : i = 0 := by omega
      obtain rfl : j = 1 := by omega
      injection e1 with e1; injection e2 with e2; subst e1 e2; exact ha
  · refine ⟨rfl, fun i hi => ?_, fun i j lv lu hij e1 e2 => ?_⟩
    · match i, hi with
      | 0, _ => exact ⟨b, rfl, own_mono h2 hB⟩
      | 1, _ => exact ⟨a, rfl, h1.keep hb⟩
    · have hj : j < 2 := (List.getElem?_eq_some_iff.1 e2).1
      obtain rfl : i = 0 := by omega
      obtain rfl : j = 1 := by omega
      injection e1 with e1; injection e2 with e2; subst e1 e2; exact ha'
/-- what a call that returns new leaves hands back -/
def LvRet (w : World) (fs : List (List Itm)) (e : Ending) (w' : World) : Prop := ∃ v', e = .returned v' ∧ OwnL w.heap.size w' v' fs ∧ Below w.heap.size w w'
theorem itms_part {w : World} {a : Option Addr} {n cap : Nat} {l : List Itm} (h : Itms w (.slice a n cap) l) {i m : Nat} (hm : i + m ≤ l.length) (hpos : 0 < m) :
    ∃ b off, a = some ⟨b, off, none⟩ ∧ Itms w (.slice (some ⟨b, off + i * 2, none⟩) m (cap - i)) ((l.drop i).take m) := by
  obtain ⟨a', c', he, h1, h2, hd⟩ := h
  injection he with he hn hc
  subst he; subst hn; subst hc
  rcases hd with hd | ⟨b, off, rfl, hb2, hb3⟩
  · rw [hd] at hm; simp at hm; omega
  · have hl : ((l.drop i).take m).length = m := by rw [List.length_take, List.length_drop]; omega
    refine ⟨b, off, rfl, _, cap - i, by rw [hl], by rw [hl]; omega, by omega, .inr ⟨b, off + i * 2, rfl, hb2, fun j hj => ?_⟩⟩
    rw [hl] at hj
    have q := hb3 (i + j) (by omega)
    rw [List.getElem_take, List.getElem_drop, show off + i * 2 + j * 2 = off + (i + j) * 2 by omega]
    exact q
end Go.Proofs.Ytopdheombgajlaa
