/-
  The program's build: Move.valid, find, scan.
-/
import Derived.Test.YtmlphdniiiijpaaBS
import Derived.Deep.RegionHeld3
set_option linter.all false
namespace Go.Proofs.Ytmlphdniiiijpaa
open Go.RowKit
def vMoveB (m : RMove) : Bool := okI (mvItm m)
theorem vMoveB_iff (m : RMove) : vMoveB m = true ↔ vMove m := by
  unfold vMoveB okI mvItm vMove
  rw [decide_eq_true_eq]
  exact ⟨fun ⟨h1, h2⟩ => ⟨h2, h1⟩, fun ⟨h1, h2⟩ => ⟨h2, h1⟩⟩
theorem cell_alloc_drew {W : World} {o : Obj} {b k : Nat} (h : b < W.heap.size) : ((W.alloc o).drew).cell? ⟨b, k, none⟩ = W.cell? ⟨b, k, none⟩ := World.cell?_of_block (a := ⟨b, k, none⟩) (Below.heap_alloc W o b h)
theorem scanB_none {b : BS} (h : b.rows.find? (gtR b.pos) = none) : scanB b = ⟨b.rows, 99, b.items, b.side⟩ := by unfold scanB; rw [h]
theorem scanB_some {b : BS} {x : Itm} (h : b.rows.find? (gtR b.pos) = some x) : scanB b = ⟨b.rows, x.r, b.items ++ [x], b.side⟩ := by unfold scanB; rw [h]
def scanT (b : BS) : Bool := (b.rows.find? (gtR b.pos)).isSome
end Go.Proofs.Ytmlphdniiiijpaa
