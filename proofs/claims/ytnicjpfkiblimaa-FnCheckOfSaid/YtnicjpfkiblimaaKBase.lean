/-
  What the kits of structs lean on.
-/
import Derived.Test.YtnicjpfkiblimaaRows
import Derived.Test.YtnicjpfkiblimaaBase
import Derived.Test.YtnicjpfkiblimaaQuiet
import Derived.Test.YtnicjpfkiblimaaMake
set_option linter.all false
namespace Go.Proofs.Ytnicjpfkiblimaa
open Go.RowKit
def SzRet (w : World) (left : Int) (n : Nat) (e : Ending) (w' : World) : Prop := ∃ r : Int, e = .returned (.int .i64 r) ∧ -1 ≤ r ∧ r ≤ left ∧ (r < 0 ∨ (n : Int) ≤ left) ∧ Below w.heap.size w w'
theorem bw_cell {w : World} {p : Addr} {v : Value} (hp : p.block < w.heap.size) (h : w.cell? p = some v) (z : BW w) : z.v.cell? p = some v := (z.h.cell hp).trans h
theorem own_mono {w : World} {base base' : Nat} {e : TypeId} {size : Nat} {v : Value} {n : Nat} {xs : List Value} (h : w.ownsRow base e size v n xs) (hb : base' ≤ base) : w.ownsRow base' e size v n xs :=
  ⟨h.1, h.2.imp id fun ⟨g, cap, cur, h1, h2, h3⟩ => ⟨g, cap, cur, h1, Nat.le_trans hb h2, h3⟩⟩
end Go.Proofs.Ytnicjpfkiblimaa
