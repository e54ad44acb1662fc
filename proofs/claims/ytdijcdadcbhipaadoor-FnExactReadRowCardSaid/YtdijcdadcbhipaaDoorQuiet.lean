/-
  A region that draws its order, whose operations read old blocks alone and whose callees lay new blocks alone: walked once.
-/
import Derived.Test.YtdijcdadcbhipaaDoorBase
import Derived.BigQuiet
import Derived.Deep.QuietTactic
set_option linter.all false
namespace Go.Proofs.YtdijcdadcbhipaaDoor
open Go.RowKit
/-- the worlds that lie over w: what was there is as it was -/
structure BW (w : World) where
  v : World
  h : Below w.heap.size w v
instance (w : World) : Inhabited (BW w) := ⟨⟨w, Below.refl _ _⟩⟩
theorem wp_region_bw {P : Program} {id : Nat} {Q : Exit → Act → World → Prop} {a : Act} {w : World} {l : List Oper} (hm : P.follows .mixedOrders = true) (hB : Region.lexB .any l.toArray = true)
    (h : wpQuiet P l.toArray (fun w' => ∃ z : BW w, w' = z.v) (fun a' => ∀ w', (∃ z : BW w, w' = z.v) → Q .normal a' w') l a) : (Code.region id l.toArray true).wp P Q a w :=
  wp_region_quiet (C := fun w' => ∃ z : BW w, w' = z.v) hm hB ⟨⟨w.drew, (Below.refl _ _).drew⟩, rfl⟩ (by simpa using h)
theorem bw_of {P : Program} {f : FuncId} {args : Array Value} {w : World} {z : BW w} {v : Value} (h : Calls P f args z.v fun e w' => e = .returned v ∧ Below z.v.heap.size z.v w') :
    Calls P f args z.v fun e w'' => e = .returned v ∧ ∃ z' : BW w, w'' = z'.v :=
  h.mono fun _ _ ⟨he, hb⟩ => ⟨he, ⟨_, z.h.trans (hb.mono z.h.size)⟩, rfl⟩
theorem bw_blk {W : World} {b : Nat} {o : Obj} (h : W.heap[b]? = some o) (z : BW W) : z.v.heap[b]? = some o := (z.h.block b (lt_block h)).trans h
theorem bw_cells5 {w : World} {b : Nat} {t : TypeId} {a0 a1 a2 a3 a4 : Value} (h : w.heap[b]? = some (.cells #[a0, a1, a2, a3, a4] t (0, 0))) :
    (∀ z : BW w, z.v.cell? ⟨b, 0, none⟩ = some a0) ∧ (∀ z : BW w, z.v.cell? ⟨b, 1, none⟩ = some a1) ∧ (∀ z : BW w, z.v.cell? ⟨b, 2, none⟩ = some a2) ∧ (∀ z : BW w, z.v.cell? ⟨b, 3, none⟩ = some a3) ∧ (∀ z : BW w, z.v.cell? ⟨b, 4, none⟩ = some a4) :=
  ⟨fun z => (cells5 (bw_blk h z)).1.1, fun z => (cells5 (bw_blk h z)).1.2.1, fun z => (cells5 (bw_blk h z)).1.2.2.1, fun z => (cells5 (bw_blk h z)).1.2.2.2.1, fun z => (cells5 (bw_blk h z)).1.2.2.2.2⟩
end Go.Proofs.YtdijcdadcbhipaaDoor
