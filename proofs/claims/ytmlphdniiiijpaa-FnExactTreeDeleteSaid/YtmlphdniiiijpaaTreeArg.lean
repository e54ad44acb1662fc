/-
  Arguments that are a tree (a struct of a slice of slices of items) or an item.
-/
import Derived.Test.YtmlphdniiiijpaaItemArg
import Derived.Test.YtmlphdniiiijpaaTreeX2
set_option linter.all false
namespace Go.Proofs.Ytmlphdniiiijpaa
open Go.Joins Go.ChangeShapes Go.WideShapes Go.RowKit Go.Deep
section
variable {H : Type} {enc : TypeId × Value → H} {P : Program} {w : World} {base : Nat} {spare : Nat → Bool} {held : Bool}
set_option maxRecDepth 100000 in
theorem items_trod {v : Value} {fuel : Nat} {y : DataW H × List MemPlace} (hf : DataW.trod enc Try.prog w base spare held fuel 90 [v] = some y) : ∃ l, Itms w v l := by
  rcases open_slice_fields Try.underlying90 Try.underlying48 (by kernel_rfl) (by kernel_rfl) hf with hcs | ⟨x, len, cap, m, hcs, hl, hm, hmm, hi⟩
  · simp at hcs
    subst hcs
    exact ⟨[], none, 0, rfl, by simp, by omega, .inl rfl⟩
  · simp at hcs
    subst hcs
    have hc9 : cap ≤ 9223372036854775807 := hm
    have hall : ∀ i : Fin len, ∃ e : Itm, x.spot = none ∧ ItmAt w x.block (x.off + i.val * 2) e := by
      rintro ⟨i, hil⟩
      obtain ⟨ys, n, hg⟩ := hi i (by omega)
      obtain ⟨v0, y0, c0, -, t0⟩ := hg 0 _ rfl
      obtain ⟨v1, y1, c1, -, t1⟩ := hg 1 _ rfl
      obtain ⟨a0, q0, _, _⟩ := DataW.trod_int Try.underlying3 t0
      obtain ⟨a1, q1, _, _⟩ := DataW.trod_int Try.underlying3 t1
      simp at q0 q1
      have hs : x.spot = none := by
        obtain ⟨ys', n', hg'⟩ := hi 0 (by omega)
        obtain ⟨_, _, c0', -, -⟩ := hg' 0 _ rfl
        simpa [Addr.add] using World.cell?_spot c0'
      exact ⟨⟨a0, a1⟩, hs, item_at (e := ⟨a0, a1⟩) hs c0 c1 q0 q1⟩
    obtain ⟨F, hF⟩ := Classical.axiomOfChoice hall
    by_cases h0 : len = 0
    · subst h0
      exact ⟨[], some x, cap, rfl, by simp, hc9, .inl rfl⟩
    · have hsp := (hF ⟨0, by omega⟩).1
      have hlt : x.block < w.heap.size := lt_cell (p := ⟨x.block, x.off + 0 * 2, none⟩) (hF ⟨0, by omega⟩).2.1
      obtain ⟨b, off, spot⟩ := x
      cases hsp
      exact ⟨List.ofFn F, some ⟨b, off, none⟩, cap, by rw [List.length_ofFn], by rw [List.length_ofFn]; exact hl, hc9, .inr ⟨b, off, rfl, hlt, fun i hi => by rw [List.getElem_ofFn]; exact (hF ⟨i, by simpa using hi⟩).2⟩⟩
set_option maxRecDepth 100000 in
theorem leaves_trod {v : Value} {fuel : Nat} {y : DataW H × List MemPlace} (hf : DataW.trod enc Try.prog w base spare held fuel 45 [v] = some y) : ∃ t, LvsA w v t := by
  rcases open_slice1 Try.underlying45 (by kernel_rfl) hf with ⟨hcs, -⟩ | ⟨x, len, cap, m, n, V, D, Pl, hcs, -, hl, hm, hmm, -, hi⟩
  · simp at hcs
    subst hcs
    exact ⟨[], none, 0, rfl, by simp, by omega, .inl rfl⟩
  · simp at hcs
    subst hcs
    have hc9 : cap ≤ 9223372036854775807 := hm
    have hlm : len ≤ m := by rw [hmm]; split <;> omega
    have hall : ∀ i : Fin len, ∃ f : List Itm, x.spot = none ∧ w.cell? ⟨x.block, x.off + i.val, none⟩ = some (V i.val) ∧ Itms w (V i.val) f := by
      rintro ⟨i, hil⟩
      obtain ⟨c0, t0⟩ := hi i (by omega)
      obtain ⟨f, hff⟩ := items_trod t0
      have hs : x.spot = none := by
        obtain ⟨c0', -⟩ := hi 0 (by omega)
        simpa [Addr.add] using World.cell?_spot c0'
      refine ⟨f, hs, ?_, hff⟩
      obtain ⟨b, off, spot⟩ := x
      cases hs
      rw [Addr.add_lit] at c0
      exact c0
    obtain ⟨F, hF⟩ := Classical.axiomOfChoice hall
    by_cases h0 : len = 0
    · subst h0
      exact ⟨[], some x, cap, rfl, by simp, hc9, .inl rfl⟩
    · obtain ⟨hsp, hc0, -⟩ := hF ⟨0, by omega⟩
      have hlt : x.block < w.heap.size := lt_cell (p := ⟨x.block, x.off + 0, none⟩) hc0
      obtain ⟨b, off, spot⟩ := x
      cases hsp
      exact ⟨List.ofFn F, some ⟨b, off, none⟩, cap, by rw [List.length_ofFn], by rw [List.length_ofFn]; exact hl, hc9, .inr ⟨b, off, rfl, hlt, fun i hi => by
        rw [List.getElem_ofFn]
        obtain ⟨-, q1, q2⟩ := hF ⟨i, by simpa using hi⟩
        exact ⟨_, q1, q2⟩⟩⟩
theorem tree_arg {r : Reach} {b0 : Nat} {v : Value} {d : DataW H} {p : List MemPlace} (hv : Value.okWide Try.prog w r b0 47 v) (h : DataW.Trod enc Try.prog w base spare held 47 v d p) :
    ∃ u t, v = .agg #[u] ∧ LvsA w u t := by
  have hs := Try.underlying47
  obtain ⟨cs, rfl, hsz⟩ := okWide_struct hs hv
  obtain ⟨l⟩ := cs
  have hC : Try.prog.cellsOf 47 = 1 := by kernel_rfl
  match l, hsz.trans hC with
  | [c0], _ =>
    obtain ⟨fuel, hf⟩ := h
    obtain ⟨xs, n, _, hx, _, hlen, hg⟩ := DataW.trod_struct hs hf
    match xs, hlen with
    | [y0], _ =>
      have h0 := hg 0 _ rfl
      have hc1 : Try.prog.cellsOf 45 = 1 := by kernel_rfl
      obtain ⟨t, ht⟩ := leaves_trod (v := c0) (y := y0) (fuel := n) (by simpa [Value.cells, hc1] using h0)
      exact ⟨c0, t, rfl, ht⟩
theorem item_arg {r : Reach} {b0 : Nat} {v : Value} {d : DataW H} {p : List MemPlace} (hv : Value.okWide Try.prog w r b0 48 v) (h : DataW.Trod enc Try.prog w base spare held 48 v d p) :
    ∃ x : Itm, v = .agg #[.int .i64 x.k, .int .i64 x.r] := by
  have hs := Try.underlying48
  obtain ⟨cs, rfl, hsz⟩ := okWide_struct hs hv
  obtain ⟨l⟩ := cs
  have hC : Try.prog.cellsOf 48 = 2 := by kernel_rfl
  match l, hsz.trans hC with
  | [c0, c1], _ =>
    obtain ⟨fuel, hf⟩ := h
    obtain ⟨xs, n, _, hx, _, hlen, hg⟩ := DataW.trod_struct hs hf
    match xs, hlen with
    | [y0, y1], _ =>
      have hc1 : Try.prog.cellsOf 3 = 1 := by kernel_rfl
      have h0 := hg 0 _ rfl
      have h1 := hg 1 _ rfl
      obtain ⟨a0, e0, _, _⟩ := DataW.trod_int Try.underlying3 (cs := [c0]) (x := y0) (fuel := n) (by simpa [Value.cells, hc1] using h0)
      obtain ⟨a1, e1, _, _⟩ := DataW.trod_int Try.underlying3 (cs := [c1]) (x := y1) (fuel := n) (by simpa [Value.cells, hc1] using h1)
      simp at e0 e1
      subst e0 e1
      exact ⟨⟨a0, a1⟩, rfl⟩
end
end Go.Proofs.Ytmlphdniiiijpaa
