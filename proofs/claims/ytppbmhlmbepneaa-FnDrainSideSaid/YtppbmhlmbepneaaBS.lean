/-
  An index that is built while rows change, in memory: the program's and the specification's.
-/
import Derived.Test.YtppbmhlmbepneaaCloneI
import Derived.Test.YtppbmhlmbepneaaOwnM
set_option linter.all false
namespace Go.Proofs.Ytppbmhlmbepneaa
open Go.RowKit
structure RowsB (B g : Nat) (w : World) (vr vi vs : Value) (rs its : List Itm) (sd : List RMove) : Prop where
  r : OwnI B w vr rs
  i : OwnI B w vi its
  s : OwnM B w vs sd
  rg : vr.ownBlock ≠ some g
  ig : vi.ownBlock ≠ some g
  sg : vs.ownBlock ≠ some g
  ri : ∀ k, vr.ownBlock = some k → vi.ownBlock ≠ some k
  rs : ∀ k, vr.ownBlock = some k → vs.ownBlock ≠ some k
  is : ∀ k, vi.ownBlock = some k → vs.ownBlock ≠ some k
theorem own_slc {B size n : Nat} {e : TypeId} {w : World} {v : Value} {xs : List Value} (h : w.ownsRow B e size v n xs) : ∃ a c, v = .slice a n c ∧ n ≤ c ∧ c ≤ 9223372036854775807 := by
  rcases h.2 with ⟨rfl, h0⟩ | ⟨g, cap, cur, rfl, _, _, h1, h2, _⟩
  · exact ⟨none, 0, by rw [h0], by omega, by omega⟩
  · exact ⟨_, cap, rfl, h1, h2⟩
theorem RowsB.keep {B g : Nat} {w w' : World} {vr vi vs : Value} {rs its : List Itm} {sd : List RMove} (h : RowsB B g w vr vi vs rs its sd) (hb : Below w.heap.size w w') : RowsB B g w' vr vi vs rs its sd :=
  ⟨h.r.keep hb, h.i.keep hb, h.s.keep hb, h.rg, h.ig, h.sg, h.ri, h.rs, h.is⟩
theorem own_by {B size n g : Nat} {e : TypeId} {w w' : World} {v : Value} {xs : List Value} (h : w.ownsRow B e size v n xs) (hg : w.grownBy w' (some g)) (hne : v.ownBlock ≠ some g) : w'.ownsRow B e size v n xs :=
  World.ownsRow.kept h hg (by
    cases hv : v.ownBlock with
    | none => exact .inl rfl
    | some k => exact .inr (by rw [← hv]; exact hne))
theorem RowsB.by {B g : Nat} {w w' : World} {vr vi vs : Value} {rs its : List Itm} {sd : List RMove} (h : RowsB B g w vr vi vs rs its sd) (hb : w.grownBy w' (some g)) : RowsB B g w' vr vi vs rs its sd :=
  ⟨own_by h.r hb h.rg, own_by h.i hb h.ig, own_by h.s hb h.sg, h.rg, h.ig, h.sg, h.ri, h.rs, h.is⟩
theorem own_kept2 {B size n : Nat} {e : TypeId} {w w' : World} {v u : Value} {xs : List Value} (h : w.ownsRow B e size v n xs) (hg : w.grownBy w' u.ownBlock) (hne : ∀ k, u.ownBlock = some k → v.ownBlock ≠ some k) : w'.ownsRow B e size v n xs :=
  World.ownsRow.kept h hg (by
    cases hv : v.ownBlock with
    | none => exact .inl rfl
    | some k => exact .inr (fun e => hne k e.symm hv))
theorem at_ne {B size n H g k : Nat} {e : TypeId} {w : World} {u v : Value} {xs : List Value} (hat : u.ownBlock = some g ∨ H ≤ g) (hv : w.ownsRow B e size v n xs) (hH : w.heap.size ≤ H) (hne : ∀ k, u.ownBlock = some k → v.ownBlock ≠ some k) (hk : some g = some k) : v.ownBlock ≠ some k := by
  injection hk with hk
  subst hk
  rcases hat with h | h
  · exact hne g h
  · intro e; have := (World.ownsRow.lt hv _ e).2; omega
/-- the rows are replaced -/
theorem RowsB.setR {B g g' n cap H : Nat} {w w' : World} {vr vi vs : Value} {rs its rs' : List Itm} {sd : List RMove} (h : RowsB B g w vr vi vs rs its sd) (hgw : g < w.heap.size) (hg : w.grownBy w' vr.ownBlock)
    (ho : OwnI B w' (.slice (some ⟨g', 0, none⟩) n cap) rs') (hat : vr.ownBlock = some g' ∨ H ≤ g') (hH : w.heap.size ≤ H) : RowsB B g w' (.slice (some ⟨g', 0, none⟩) n cap) vi vs rs' its sd := by
  refine ⟨ho, own_kept2 h.i hg h.ri, own_kept2 h.s hg h.rs, ?_, h.ig, h.sg, fun k hk => at_ne hat h.i hH h.ri hk, fun k hk => at_ne hat h.s hH h.rs hk, h.is⟩
  intro e
  have e : g' = g := by injection e
  subst e
  rcases hat with h1 | h1
  · exact h.rg h1
  · omega
theorem RowsB.setI {B g g' n cap H : Nat} {w w' : World} {vr vi vs : Value} {rs its its' : List Itm} {sd : List RMove} (h : RowsB B g w vr vi vs rs its sd) (hgw : g < w.heap.size) (hg : w.grownBy w' vi.ownBlock)
    (ho : OwnI B w' (.slice (some ⟨g', 0, none⟩) n cap) its') (hat : vi.ownBlock = some g' ∨ H ≤ g') (hH : w.heap.size ≤ H) : RowsB B g w' vr (.slice (some ⟨g', 0, none⟩) n cap) vs rs its' sd := by
  have hir : ∀ k, vi.ownBlock = some k → vr.ownBlock ≠ some k := fun k h1 h2 => h.ri k h2 h1
  refine ⟨own_kept2 h.r hg hir, ho, own_kept2 h.s hg h.is, h.rg, ?_, h.sg, fun k hk e => at_ne hat h.r hH hir e hk, h.rs, fun k hk => at_ne hat h.s hH h.is hk⟩
  intro e
  have e : g' = g := by injection e
  subst e
  rcases hat with h1 | h1
  · exact h.ig h1
  · omega
theorem RowsB.setS {B g g' n cap H : Nat} {w w' : World} {vr vi vs : Value} {rs its : List Itm} {sd sd' : List RMove} (h : RowsB B g w vr vi vs rs its sd) (hgw : g < w.heap.size) (hg : w.grownBy w' vs.ownBlock)
    (ho : OwnM B w' (.slice (some ⟨g', 0, none⟩) n cap) sd') (hat : vs.ownBlock = some g' ∨ H ≤ g') (hH : w.heap.size ≤ H) : RowsB B g w' vr vi (.slice (some ⟨g', 0, none⟩) n cap) rs its sd' := by
  have hsr : ∀ k, vs.ownBlock = some k → vr.ownBlock ≠ some k := fun k h1 h2 => h.rs k h2 h1
  have hsi : ∀ k, vs.ownBlock = some k → vi.ownBlock ≠ some k := fun k h1 h2 => h.is k h2 h1
  refine ⟨own_kept2 h.r hg hsr, own_kept2 h.i hg hsi, ho, h.rg, h.ig, ?_, h.ri, fun k hk e => at_ne hat h.r hH hsr e hk, fun k hk e => at_ne hat h.i hH hsi e hk⟩
  intro e
  have e : g' = g := by injection e
  subst e
  rcases hat with h1 | h1
  · exact h.sg h1
  · omega
/-- the program's box -/
def BoxI (B g : Nat) (w : World) (b : BS) : Prop := B ≤ g ∧ ∃ vr vi vs, w.heap[g]? = some (.cells #[vr, .int .i64 b.pos, vi, vs] 58 (0, 0)) ∧ RowsB B g w vr vi vs b.rows b.items b.side
/-- the specification's box -/
def BoxS (B g : Nat) (w : World) (b : BS) : Prop := B ≤ g ∧ ∃ vr vi vs, w.heap[g]? = some (.cells #[vr, vi, vs, .int .i64 b.pos] 61 (0, 0)) ∧ RowsB B g w vr vi vs b.rows (ordL b.items) b.side
theorem BoxI.keep {B g : Nat} {w w' : World} {b : BS} (h : BoxI B g w b) (hb : Below w.heap.size w w') : BoxI B g w' b := by
  obtain ⟨h0, vr, vi, vs, h1, h2⟩ := h
  exact ⟨h0, vr, vi, vs, blk_own hb h1, h2.keep hb⟩
theorem BoxS.keep {B g : Nat} {w w' : World} {b : BS} (h : BoxS B g w b) (hb : Below w.heap.size w w') : BoxS B g w' b := by
  obtain ⟨h0, vr, vi, vs, h1, h2⟩ := h
  exact ⟨h0, vr, vi, vs, blk_own hb h1, h2.keep hb⟩
theorem BoxI.lt {B g : Nat} {w : World} {b : BS} (h : BoxI B g w b) : g < w.heap.size := by obtain ⟨-, _, _, _, h1, -⟩ := h; exact lt_block h1
theorem BoxS.lt {B g : Nat} {w : World} {b : BS} (h : BoxS B g w b) : g < w.heap.size := by obtain ⟨-, _, _, _, h1, -⟩ := h; exact lt_block h1
theorem cells4 {w : World} {b : Nat} {t : TypeId} {a0 a1 a2 a3 : Value} (h : w.heap[b]? = some (.cells #[a0, a1, a2, a3] t (0, 0))) :
    (w.cell? ⟨b, 0, none⟩ = some a0 ∧ w.cell? ⟨b, 1, none⟩ = some a1 ∧ w.cell? ⟨b, 2, none⟩ = some a2 ∧ w.cell? ⟨b, 3, none⟩ = some a3) ∧
    (w.frozen? ⟨b, 0, none⟩ = false ∧ w.frozen? ⟨b, 1, none⟩ = false ∧ w.frozen? ⟨b, 2, none⟩ = false ∧ w.frozen? ⟨b, 3, none⟩ = false) := by
  simp [World.cell?, World.frozen?, h]
end Go.Proofs.Ytppbmhlmbepneaa
