/-
  The generators' texts: of, someName.
-/
import Derived.Test.YteikeljklfblmaaAdd2
import Derived.Deep.LoopGhost
set_option linter.all false
namespace Go.Proofs.Yteikeljklfblmaa
open Go.RowKit
theorem Rd.drew {w : World} {g : Nat} {p : Int} (h : Rd w g p) : Rd w.drew g p := h
theorem grown_drew {a b : World} {row : Option Nat} (h : a.grownBy b row) : a.grownBy b.drew row := ⟨h.os, h.tape, h.output, h.size, h.block⟩
theorem blk_other {w : World} {b b' o : Nat} {v : Value} {x : Obj} (h : w.heap[b]? = some x) (hne : b ≠ b') : (w.setCell ⟨b', o, none⟩ v).heap[b]? = some x := (Below.heap_setCell w ⟨b', o, none⟩ v b hne).trans h
theorem grown_setNew {a b : World} {row : Option Nat} {B o : Nat} {v : Value} (h : a.grownBy b row) (hB : a.heap.size ≤ B) : a.grownBy (b.setCell ⟨B, o, none⟩ v) row :=
  ⟨h.os, h.tape, h.output, by simpa [World.setCell] using h.size, fun i hi hn => (Below.heap_setCell b ⟨B, o, none⟩ v i (by simp; omega)).trans (h.block i hi hn)⟩
theorem Rd.setCell {w : World} {g B o : Nat} {p : Int} {v : Value} (h : Rd w g p) (hB : g < B) : Rd (w.setCell ⟨B, o, none⟩ v) g p := h.keepBy (grown_setCell _ _ _ _) hB
theorem blk_set3 {w : World} {b : Nat} {t : TypeId} {a0 a1 a2 c0 c1 c2 : Value} (h : w.heap[b]? = some (.cells #[a0, a1, a2] t (0, 0))) :
    (((w.setCell ⟨b, 0, none⟩ c0).setCell ⟨b, 1, none⟩ c1).setCell ⟨b, 2, none⟩ c2).heap[b]? = some (.cells #[c0, c1, c2] t (0, 0)) := by
  rw [set_block (set_block (set_block h _ _) _ _) _ _]; rfl
/-- a slice of texts that the caller has made: 'of' returns one of them -/
def TextRow (w : World) (b : Nat) (xs : List ByteArray) : Prop := b < w.heap.size ∧ ∀ i (h : i < xs.length), w.cell? ⟨b, i, none⟩ = some (.string xs[i])
def OfPost (w : World) (g : Nat) (p : Int) (xs : List ByteArray) (e : Ending) (w' : World) : Prop := ∃ r, e = .returned (.string r) ∧ r ∈ xs ∧ Rd w' g (p + 1) ∧ w.grownBy w' (some g)
theorem textrow {w : World} {b : Nat} {t : TypeId} {f : Nat × Nat} {xs : List ByteArray} (h : w.heap[b]? = some (.cells (xs.map Value.string).toArray t f)) : TextRow w b xs :=
  ⟨lt_block h, fun i hi => by rw [cell_block h]; simp [hi]⟩
set_option maxHeartbeats 1000000 in
theorem of_lit (g : Nat) (p : Int) (b cap : Nat) (t : TypeId) (xs : List ByteArray) (w : World) (h : Rd w g p) (hp : p < 1000000000) (hb : w.heap[b]? = some (.cells (xs.map Value.string).toArray t (0, 0))) (hbg : b ≠ g) (hxs : 0 < xs.length) (hxl : xs.length < 1000) :
    Calls Try.prog 50 #[.pointer (some ⟨g, 0, none⟩), .slice (some ⟨b, 0, none⟩) xs.length cap] w (OfPost w g p xs) := by
  obtain ⟨hb, hc⟩ := textrow hb
  go_enter Try.func50, Try.ntmps50
  go_wp2_with fail
  refine (pick_any g p xs.length w h hp).mono ?_
  rintro e w1 ⟨r, rfl, hr, hR, hgr⟩
  obtain ⟨i, rfl⟩ : ∃ i : Nat, r = (i : Int) := ⟨r.toNat, by have := hr.1; omega⟩
  have hi : i < xs.length := by have := hr.2 (by omega); omega
  have hci : w1.cell? ⟨b, i, none⟩ = some (.string xs[i]) := by
    rw [World.cell?_of_block (a := ⟨b, i, none⟩) (hgr.block b hb (fun e => hbg (by injection e)))]; exact hc i hi
  have hm : Hid (xs[i] ∈ xs) := List.getElem_mem hi
  have HR := hide hR
  have HG := hide hgr
  clear hc hR hgr
  generalize xs[i] = y at *
  go_wp2
  go_ret
  exact ⟨y, rfl, hm.out, HR.out, HG.out⟩
def someNames : List ByteArray := [⟨#[98, 111, 111, 107, 115]⟩, ⟨#[117, 115, 101, 114, 115]⟩, ⟨#[97]⟩, ⟨#[98, 121]⟩, ⟨#[110, 111, 110, 101]⟩, ⟨#[]⟩, ⟨#[98, 111, 111, 107, 115]⟩]
def NamePost (w : World) (g : Nat) (p : Int) (e : Ending) (w' : World) : Prop := ∃ r, e = .returned (.string r) ∧ r.size ≤ 100 ∧ Rd w' g (p + 1) ∧ w.grownBy w' (some g)
set_option maxHeartbeats 1000000 in
theorem someName_any (g : Nat) (p : Int) (w : World) (h : Rd w g p) (hp : p < 1000000000) :
    Calls Try.prog 46 #[.pointer (some ⟨g, 0, none⟩)] w (NamePost w g p) := by
  have hR := hide h
  have hg : g < w.heap.size := h.lt
  clear h
  go_enter Try.func46, Try.ntmps46
  go_wp2_with fail
  refine (of_lit g p _ 7 _ someNames _ (hR.out.alloc _) hp (blk_alloc w _) (by omega) (by decide) (by decide)).mono ?_
  rintro e w1 ⟨r, rfl, hr, hR1, hg1⟩
  have hz : Hid (r.size ≤ 100) := (show ∀ r ∈ someNames, r.size ≤ 100 from by decide) r hr
  have R1 := hide hR1
  have G1 : Hid (w.grownBy w1 (some g)) := grown_trans (grown_alloc (grown_below (Below.refl _ _) _) _) hg1
  clear hr hR1 hg1
  go_wp2_with fail
  go_ret
  exact ⟨r, rfl, hz.out, R1.out, G1.out⟩
end Go.Proofs.Yteikeljklfblmaa
