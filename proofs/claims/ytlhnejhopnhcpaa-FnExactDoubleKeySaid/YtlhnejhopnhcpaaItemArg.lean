/-
  An argument that is a slice of items of the laws: structs of two numbers.
-/
import Derived.Test.YtlhnejhopnhcpaaRows
import Derived.Test.YtlhnejhopnhcpaaItem
import Derived.WalkKit
import Derived.ProofKit
import Derived.OpenShut
import Derived.Lib.SmallJoins
import Derived.Deep.Slices
import Derived.Deep.Fields
import Derived.ChangeSame
set_option linter.all false
namespace Go.Proofs.Ytlhnejhopnhcpaa
open Go.Joins Go.ChangeShapes Go.WideShapes Go.RowKit Go.Deep
section
variable {H : Type} {enc : TypeId × Value → H} {P : Program} {w : World} {base : Nat} {spare : Nat → Bool} {held : Bool}
theorem open_slice_fields {t e : TypeId} {fs : Array Field} {fuel : Nat} {cs : List Value} {x : DataW H × List MemPlace} (ht : P.underlying t = some (.slice e)) (he : P.underlying e = some (.struct fs))
    (hone : oneCellFields P fs = true) (hC : P.cellsOf e = fs.size) (h : DataW.trod enc P w base spare held fuel t cs = some x) :
    (cs = [.slice none 0 0]) ∨
    ∃ (a : Addr) (len cap m : Nat), cs = [.slice (some a) len cap] ∧ len ≤ cap ∧ cap ≤ maxLen ∧ len ≤ m ∧
      ∀ i, i < m → ∃ (ys : List (DataW H × List MemPlace)) (n : Nat),
        ∀ (j : Nat) (f : Field), fs[j]? = some f → ∃ (v : Value) (y : DataW H × List MemPlace), w.cell? (a.add (i * fs.size + j)) = some v ∧ ys[j]? = some y ∧ DataW.trod enc P w base spare held n f.type [v] = some y := by
  rcases open_slice ht h with h0 | ⟨a, len, cap, m, n, D, Pl, hcs, hb, hl, hm, hmm, hx, hi⟩
  · exact .inl h0.1
  · refine .inr ⟨a, len, cap, m, hcs, hl, hm, by rw [hmm]; split <;> omega, fun i him => ?_⟩
    obtain ⟨cs', hc, ht'⟩ := hi i him
    rw [hC] at hc
    obtain ⟨ys, n', hn', hy, hlen, hyl, hf⟩ := DataW.trod_struct he ht'
    obtain ⟨_, hcl, hat⟩ := World.cells?_some hc
    refine ⟨ys, n', fun j f hj => ?_⟩
    obtain ⟨ho, hk⟩ := hone_of hone j f hj
    have hjl : j < fs.size := (Array.getElem?_eq_some_iff.1 hj).1
    have hcell := hat j hjl
    have hv : cs'[j]? = some (cs'[j]'(by omega)) := List.getElem?_eq_getElem (by omega)
    have h1 := hf j f hj
    rw [ho, hk] at h1
    have hone' : (cs'.drop j).take 1 = [cs'[j]'(by omega)] := by
      rw [List.drop_eq_getElem_cons (by omega)]
      rfl
    rw [hone'] at h1
    have hys : ys[j]? = some (ys[j]'(by omega)) := List.getElem?_eq_getElem (by omega)
    refine ⟨_, _, ?_, hys, h1.trans hys⟩
    rw [← Go.Deep.add_add, hcell, hv]
theorem item_at {x : Addr} {i : Nat} (hn : x.spot = none) {vk vr : Value} {e : Itm} (h0 : w.cell? (x.add (i * 2 + 0)) = some vk) (h1 : w.cell? (x.add (i * 2 + 1)) = some vr)
    (e0 : vk = .int .i64 e.k) (e1 : vr = .int .i64 e.r) : ItmAt w x.block (x.off + i * 2) e := by
  obtain ⟨b, off, spot⟩ := x
  cases hn
  subst e0 e1
  have h : ∀ k, (⟨b, off, none⟩ : Addr).add k = ⟨b, off + k, none⟩ := fun k => by unfold Addr.add; split <;> simp_all
  rw [h] at h0 h1
  exact ⟨h0, by rw [Nat.add_assoc]; exact h1⟩
theorem items_arg {r : Reach} {b0 : Nat} {v : Value} {d : DataW H} {p : List MemPlace} (hv : Value.okWide Try.prog w r b0 22 v) (h : DataW.Trod enc Try.prog w base spare held 22 v d p) :
    ∃ l, Itms w v l := by
  obtain ⟨a, len, cap, rfl⟩ := okWide_slice Try.underlying22 hv
  obtain ⟨fuel, hf⟩ := h
  rcases open_slice_fields Try.underlying22 Try.underlying36 (by kernel_rfl) (by kernel_rfl) hf with hcs | ⟨x, l, c, m, hcs, hl, hm, hmm, hi⟩
  · simp [Value.cells] at hcs
    obtain ⟨rfl, rfl, rfl⟩ := hcs
    exact ⟨[], none, 0, rfl, by simp, by omega, .inl rfl⟩
  · simp [Value.cells] at hcs
    obtain ⟨rfl, rfl, rfl⟩ := hcs
    have hc9 : cap ≤ 9223372036854775807 := hm
    have hall : ∀ i : Fin len, ∃ e : Itm, x.spot = none ∧ ItmAt w x.block (x.off + i.val * 2) e := by
      rintro ⟨i, hil⟩
      obtain ⟨ys, n, hg⟩ := hi i (by omega)
      obtain ⟨v0, y0, c0, -, t0⟩ := hg 0 _ rfl
      obtain ⟨v1, y1, c1, -, t1⟩ := hg 1 _ rfl
      obtain ⟨a0, q0, _, _⟩ := DataW.trod_int Try.underlying3 t0
      obtain ⟨a1, q1, _, _⟩ := DataW.trod_int Try.underlying3 t1
      simp at q0 q1
      have hs : x.spot = none := by
        obtain ⟨ys', n', hg'⟩ := hi 0 (by omega)
        obtain ⟨_, _, c0', -, -⟩ := hg' 0 _ rfl
        simpa [Addr.add] using World.cell?_spot c0'
      exact ⟨⟨a0, a1⟩, hs, item_at (e := ⟨a0, a1⟩) hs c0 c1 q0 q1⟩
    obtain ⟨F, hF⟩ := Classical.axiomOfChoice hall
    by_cases h0 : len = 0
    · subst h0
      exact ⟨[], some x, cap, rfl, by simp, hc9, .inl rfl⟩
    · have hsp := (hF ⟨0, by omega⟩).1
      have hlt : x.block < w.heap.size := lt_cell (p := ⟨x.block, x.off + 0 * 2, none⟩) (hF ⟨0, by omega⟩).2.1
      obtain ⟨b, off, spot⟩ := x
      cases hsp
      exact ⟨List.ofFn F, some ⟨b, off, none⟩, cap, by rw [List.length_ofFn], by rw [List.length_ofFn]; exact hl, hc9, .inr ⟨b, off, rfl, hlt, fun i hi => by rw [List.getElem_ofFn]; exact (hF ⟨i, by simpa using hi⟩).2⟩⟩
end
end Go.Proofs.Ytlhnejhopnhcpaa
