/-
  An argument that is a slice of items of the laws: structs of two numbers.
-/
import Derived.Test.YtmlphdniiiijpaaRows
import Derived.Test.YtmlphdniiiijpaaItem
import Derived.Test.YtmlphdniiiijpaaSlArg
import Derived.WalkKit
import Derived.ProofKit
import Derived.OpenShut
import Derived.Lib.SmallJoins
import Derived.Deep.Slices
import Derived.Deep.Fields
import Derived.ChangeSame
set_option linter.all false
namespace Go.Proofs.Ytmlphdniiiijpaa
open Go.Joins Go.ChangeShapes Go.WideShapes Go.RowKit Go.Deep
section
variable {H : Type} {enc : TypeId × Value → H} {P : Program} {w : World} {base : Nat} {spare : Nat → Bool} {held : Bool}
theorem item_at {x : Addr} {i : Nat} (hn : x.spot = none) {vk vr : Value} {e : Itm} (h0 : w.cell? (x.add (i * 2 + 0)) = some vk) (h1 : w.cell? (x.add (i * 2 + 1)) = some vr)
    (e0 : vk = .int .i64 e.k) (e1 : vr = .int .i64 e.r) : ItmAt w x.block (x.off + i * 2) e := by
  obtain ⟨b, off, spot⟩ := x
  cases hn
  subst e0 e1
  have h : ∀ k, (⟨b, off, none⟩ : Addr).add k = ⟨b, off + k, none⟩ := fun k => by unfold Addr.add; split <;> simp_all
  rw [h] at h0 h1
  exact ⟨h0, by rw [Nat.add_assoc]; exact h1⟩
set_option maxRecDepth 100000 in
theorem items_arg {r : Reach} {b0 : Nat} {v : Value} {d : DataW H} {p : List MemPlace} (hv : Value.okWide Try.prog w r b0 90 v) (h : DataW.Trod enc Try.prog w base spare held 90 v d p) :
    ∃ l, Itms w v l := by
  obtain ⟨a, len, cap, rfl⟩ := okWide_slice Try.underlying90 hv
  obtain ⟨fuel, hf⟩ := h
  rcases open_slice_fields Try.underlying90 Try.underlying48 (by kernel_rfl) (by kernel_rfl) hf with hcs | ⟨x, l, c, m, hcs, hl, hm, hmm, hi⟩
  · simp [Value.cells] at hcs
    obtain ⟨rfl, rfl, rfl⟩ := hcs
    exact ⟨[], none, 0, rfl, by simp, by omega, .inl rfl⟩
  · simp [Value.cells] at hcs
    obtain ⟨rfl, rfl, rfl⟩ := hcs
    have hc9 : cap ≤ 9223372036854775807 := hm
    have hall : ∀ i : Fin len, ∃ e : Itm, x.spot = none ∧ ItmAt w x.block (x.off + i.val * 2) e := by
      rintro ⟨i, hil⟩
      obtain ⟨ys, n, hg⟩ := hi i (by omega)
      obtain ⟨v0, y0, c0, -, t0⟩ := hg 0 _ rfl
      obtain ⟨v1, y1, c1, -, t1⟩ := hg 1 _ rfl
      obtain ⟨a0, q0, _, _⟩ := DataW.trod_int Try.underlying3 t0
      obtain ⟨a1, q1, _, _⟩ := DataW.trod_int Try.underlying3 t1
      simp at q0 q1
      have hs : x.spot = none := by
        obtain ⟨ys', n', hg'⟩ := hi 0 (by omega)
        obtain ⟨_, _, c0', -, -⟩ := hg' 0 _ rfl
        simpa [Addr.add] using World.cell?_spot c0'
      exact ⟨⟨a0, a1⟩, hs, item_at (e := ⟨a0, a1⟩) hs c0 c1 q0 q1⟩
    obtain ⟨F, hF⟩ := Classical.axiomOfChoice hall
    by_cases h0 : len = 0
    · subst h0
      exact ⟨[], some x, cap, rfl, by simp, hc9, .inl rfl⟩
    · have hsp := (hF ⟨0, by omega⟩).1
      have hlt : x.block < w.heap.size := lt_cell (p := ⟨x.block, x.off + 0 * 2, none⟩) (hF ⟨0, by omega⟩).2.1
      obtain ⟨b, off, spot⟩ := x
      cases hsp
      exact ⟨List.ofFn F, some ⟨b, off, none⟩, cap, by rw [List.length_ofFn], by rw [List.length_ofFn]; exact hl, hc9, .inr ⟨b, off, rfl, hlt, fun i hi => by rw [List.getElem_ofFn]; exact (hF ⟨i, by simpa using hi⟩).2⟩⟩
end
end Go.Proofs.Ytmlphdniiiijpaa
