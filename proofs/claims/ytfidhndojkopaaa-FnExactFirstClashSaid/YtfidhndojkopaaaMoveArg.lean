/-
  An argument that is a slice of Move of the laws.
-/
import Derived.Test.YtfidhndojkopaaaKMove
import Derived.Test.YtfidhndojkopaaaSlArg
set_option linter.all false
namespace Go.Proofs.Ytfidhndojkopaaa
open Go.Joins Go.ChangeShapes Go.WideShapes Go.RowKit Go.Deep
section
variable {H : Type} {enc : TypeId × Value → H} {w : World} {base : Nat} {spare : Nat → Bool} {held : Bool}
theorem move_at {x : Addr} {i : Nat} (hn : x.spot = none) {v0 v1 v2 v3 : Value} {e : RMove} (h0 : w.cell? (x.add (i * 4 + 0)) = some v0) (h1 : w.cell? (x.add (i * 4 + 1)) = some v1) (h2 : w.cell? (x.add (i * 4 + 2)) = some v2) (h3 : w.cell? (x.add (i * 4 + 3)) = some v3)
    (e0 : v0 = .bool e.scan) (e1 : v1 = .bool e.gone) (e2 : v2 = .int .i64 e.row) (e3 : v3 = .int .i64 e.key) : MoveAt w x.block (x.off + i * 4) e := by
  obtain ⟨b, off, spot⟩ := x
  cases hn
  subst e0 e1 e2 e3
  have h : ∀ k, (⟨b, off, none⟩ : Addr).add k = ⟨b, off + k, none⟩ := fun k => by unfold Addr.add; split <;> simp_all
  rw [h] at h0 h1 h2 h3
  exact ⟨h0, by rw [Nat.add_assoc]; exact h1, by rw [Nat.add_assoc]; exact h2, by rw [Nat.add_assoc]; exact h3⟩
set_option maxRecDepth 100000 in
theorem moves_arg {r : Reach} {b0 : Nat} {v : Value} {d : DataW H} {p : List MemPlace} (hv : Value.okWide Try.prog w r b0 30 v) (h : DataW.Trod enc Try.prog w base spare held 30 v d p) :
    ∃ l, Moves w v l := by
  obtain ⟨a, len, cap, rfl⟩ := okWide_slice Try.underlying30 hv
  obtain ⟨fuel, hf⟩ := h
  rcases open_slice_fields Try.underlying30 Try.underlying51 (by kernel_rfl) (by kernel_rfl) hf with hcs | ⟨x, l, c, m, hcs, hl, hm, hmm, hi⟩
  · simp [Value.cells] at hcs
    obtain ⟨rfl, rfl, rfl⟩ := hcs
    exact ⟨[], none, 0, rfl, by simp, by omega, .inl rfl⟩
  · simp [Value.cells] at hcs
    obtain ⟨rfl, rfl, rfl⟩ := hcs
    have hc9 : cap ≤ 9223372036854775807 := hm
    have hall : ∀ i : Fin len, ∃ e : RMove, x.spot = none ∧ MoveAt w x.block (x.off + i.val * 4) e := by
      rintro ⟨i, hil⟩
      obtain ⟨ys, n, hg⟩ := hi i (by omega)
      obtain ⟨v0, y0, c0, -, t0⟩ := hg 0 _ rfl
      obtain ⟨v1, y1, c1, -, t1⟩ := hg 1 _ rfl
      obtain ⟨v2, y2, c2, -, t2⟩ := hg 2 _ rfl
      obtain ⟨v3, y3, c3, -, t3⟩ := hg 3 _ rfl
      obtain ⟨a0, q0, -⟩ := DataW.trod_bool Try.underlying4 t0
      obtain ⟨a1, q1, -⟩ := DataW.trod_bool Try.underlying4 t1
      obtain ⟨a2, q2, -⟩ := DataW.trod_int Try.underlying3 t2
      obtain ⟨a3, q3, -⟩ := DataW.trod_int Try.underlying3 t3
      simp at q0 q1 q2 q3
      have hs : x.spot = none := by
        obtain ⟨ys', n', hg'⟩ := hi 0 (by omega)
        obtain ⟨_, _, c0', -, -⟩ := hg' 0 _ rfl
        simpa [Addr.add] using World.cell?_spot c0'
      exact ⟨⟨a0, a1, a2, a3⟩, hs, move_at (e := ⟨a0, a1, a2, a3⟩) hs c0 c1 c2 c3 q0 q1 q2 q3⟩
    obtain ⟨F, hF⟩ := Classical.axiomOfChoice hall
    by_cases h0 : len = 0
    · subst h0
      exact ⟨[], some x, cap, rfl, by simp, hc9, .inl rfl⟩
    · have hsp := (hF ⟨0, by omega⟩).1
      have hlt : x.block < w.heap.size := lt_cell (p := ⟨x.block, x.off + 0 * 4, none⟩) (hF ⟨0, by omega⟩).2.1
      obtain ⟨b, off, spot⟩ := x
      cases hsp
      exact ⟨List.ofFn F, some ⟨b, off, none⟩, cap, by rw [List.length_ofFn], by rw [List.length_ofFn]; exact hl, hc9, .inr ⟨b, off, rfl, hlt, fun i hi => by rw [List.getElem_ofFn]; exact (hF ⟨i, by simpa using hi⟩).2⟩⟩
end
end Go.Proofs.Ytfidhndojkopaaa
