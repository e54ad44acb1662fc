/-
  Arguments of the exact laws: values, columns and changes, one by one and in rows.
-/
import Derived.Test.YtdijcdadcbhipaaDoorRows
import Derived.Test.YtdijcdadcbhipaaDoorFR2
import Derived.WalkKit
import Derived.ProofKit
import Derived.OpenShut
import Derived.Lib.SmallJoins
import Derived.Deep.Slices
import Derived.Deep.Fields
import Derived.ChangeSame
set_option linter.all false
namespace Go.Proofs.YtdijcdadcbhipaaDoor
open Go.Joins Go.ChangeShapes Go.WideShapes Go.RowKit Go.Deep
section
variable {H : Type} {enc : TypeId × Value → H} {w : World} {base : Nat} {spare : Nat → Bool} {held : Bool}
theorem len2_of {α : Type} {l : List α} (h : l.length = 2) : ∃ c0 c1, l = [c0, c1] := by
  match l, h with
  | [c0, c1], _ => exact ⟨c0, c1, rfl⟩
theorem len3_of {α : Type} {l : List α} (h : l.length = 3) : ∃ c0 c1 c2, l = [c0, c1, c2] := by
  match l, h with
  | [c0, c1, c2], _ => exact ⟨c0, c1, c2, rfl⟩
theorem len4_of {α : Type} {l : List α} (h : l.length = 4) : ∃ c0 c1 c2 c3, l = [c0, c1, c2, c3] := by
  match l, h with
  | [c0, c1, c2, c3], _ => exact ⟨c0, c1, c2, c3, rfl⟩
theorem len6_of {α : Type} {l : List α} (h : l.length = 6) : ∃ c0 c1 c2 c3 c4 c5, l = [c0, c1, c2, c3, c4, c5] := by
  match l, h with
  | [c0, c1, c2, c3, c4, c5], _ => exact ⟨c0, c1, c2, c3, c4, c5, rfl⟩
theorem some_at {α : Type} {l : List α} {n : Nat} (i : Nat) (h : l.length = n) (hi : i < n) : ∃ y, l[i]? = some y := ⟨_, List.getElem?_eq_getElem (by omega)⟩
theorem cells_int : Tryd.prog.cellsOf 3 = 1 := by kernel_rfl
theorem cells_string : Tryd.prog.cellsOf 9 = 1 := by kernel_rfl
theorem cells_val : Tryd.prog.cellsOf 38 = 3 := by kernel_rfl
theorem cells_col : Tryd.prog.cellsOf 40 = 4 := by kernel_rfl
theorem cells_chg : Tryd.prog.cellsOf 42 = 6 := by kernel_rfl
variable {fuel : Nat} {cs : List Value} {x : DataW H × List MemPlace}
theorem open3 {t : TypeId} {f0 f1 f2 : Field} (hs : Tryd.prog.underlying t = some (.struct #[f0, f1, f2])) (hC : Tryd.prog.cellsOf t = 3) (o : f0.offset = 0 ∧ f1.offset = 1 ∧ f2.offset = 2) (k : Tryd.prog.cellsOf f0.type = 1 ∧ Tryd.prog.cellsOf f1.type = 1 ∧ Tryd.prog.cellsOf f2.type = 1)
    (h : DataW.trod enc Tryd.prog w base spare held fuel t cs = some x) : ∃ (c0 c1 c2 : Value) (y0 y1 y2 : DataW H × List MemPlace) (n : Nat), cs = [c0, c1, c2] ∧ DataW.trod enc Tryd.prog w base spare held n f0.type [c0] = some y0 ∧ DataW.trod enc Tryd.prog w base spare held n f1.type [c1] = some y1 ∧ DataW.trod enc Tryd.prog w base spare held n f2.type [c2] = some y2 := by
  obtain ⟨xs, n, -, -, hlen, hxl, hg⟩ := DataW.trod_struct hs h
  rw [hC] at hlen
  obtain ⟨c0, c1, c2, rfl⟩ := len3_of hlen
  obtain ⟨y0, y1, y2, rfl⟩ := len3_of (show xs.length = 3 from hxl)
  obtain ⟨o0, o1, o2⟩ := o
  obtain ⟨k0, k1, k2⟩ := k
  exact ⟨c0, c1, c2, y0, y1, y2, n, rfl, by simpa [o0, k0] using hg 0 f0 rfl, by simpa [o1, k1] using hg 1 f1 rfl, by simpa [o2, k2] using hg 2 f2 rfl⟩
theorem open13 {t : TypeId} {f0 f1 : Field} (hs : Tryd.prog.underlying t = some (.struct #[f0, f1])) (hC : Tryd.prog.cellsOf t = 4) (o : f0.offset = 0 ∧ f1.offset = 1) (k : Tryd.prog.cellsOf f0.type = 1 ∧ Tryd.prog.cellsOf f1.type = 3)
    (h : DataW.trod enc Tryd.prog w base spare held fuel t cs = some x) : ∃ (c0 : Value) (r : List Value) (y0 y1 : DataW H × List MemPlace) (n : Nat), cs = c0 :: r ∧ DataW.trod enc Tryd.prog w base spare held n f0.type [c0] = some y0 ∧ DataW.trod enc Tryd.prog w base spare held n f1.type r = some y1 := by
  obtain ⟨xs, n, -, -, hlen, hxl, hg⟩ := DataW.trod_struct hs h
  rw [hC] at hlen
  obtain ⟨c0, c1, c2, c3, rfl⟩ := len4_of hlen
  obtain ⟨y0, y1, rfl⟩ := len2_of (show xs.length = 2 from hxl)
  obtain ⟨o0, o1⟩ := o
  obtain ⟨k0, k1⟩ := k
  exact ⟨c0, [c1, c2, c3], y0, y1, n, rfl, by simpa [o0, k0] using hg 0 f0 rfl, by simpa [o1, k1] using hg 1 f1 rfl⟩
theorem open114 {t : TypeId} {f0 f1 f2 : Field} (hs : Tryd.prog.underlying t = some (.struct #[f0, f1, f2])) (hC : Tryd.prog.cellsOf t = 6) (o : f0.offset = 0 ∧ f1.offset = 1 ∧ f2.offset = 2) (k : Tryd.prog.cellsOf f0.type = 1 ∧ Tryd.prog.cellsOf f1.type = 1 ∧ Tryd.prog.cellsOf f2.type = 4)
    (h : DataW.trod enc Tryd.prog w base spare held fuel t cs = some x) : ∃ (c0 c1 : Value) (r : List Value) (y0 y1 y2 : DataW H × List MemPlace) (n : Nat), cs = c0 :: c1 :: r ∧ DataW.trod enc Tryd.prog w base spare held n f0.type [c0] = some y0 ∧ DataW.trod enc Tryd.prog w base spare held n f1.type [c1] = some y1 ∧ DataW.trod enc Tryd.prog w base spare held n f2.type r = some y2 := by
  obtain ⟨xs, n, -, -, hlen, hxl, hg⟩ := DataW.trod_struct hs h
  rw [hC] at hlen
  obtain ⟨c0, c1, c2, c3, c4, c5, rfl⟩ := len6_of hlen
  obtain ⟨y0, y1, y2, rfl⟩ := len3_of (show xs.length = 3 from hxl)
  obtain ⟨o0, o1, o2⟩ := o
  obtain ⟨k0, k1, k2⟩ := k
  exact ⟨c0, c1, [c2, c3, c4, c5], y0, y1, y2, n, rfl, by simpa [o0, k0] using hg 0 f0 rfl, by simpa [o1, k1] using hg 1 f1 rfl, by simpa [o2, k2] using hg 2 f2 rfl⟩
theorem val_cells (h : DataW.trod enc Tryd.prog w base spare held fuel 38 cs = some x) : ∃ v : RVal, cs = vEnc v ∧ okV v := by
  obtain ⟨c0, c1, c2, y0, y1, y2, n, rfl, g0, g1, g2⟩ := open3 Tryd.underlying38 cells_val ⟨rfl, rfl, rfl⟩ ⟨cells_int, cells_int, cells_string⟩ h
  obtain ⟨a0, e0, -, -⟩ := DataW.trod_int Tryd.underlying3 g0
  obtain ⟨a1, e1, -, -⟩ := DataW.trod_int Tryd.underlying3 g1
  obtain ⟨a2, e2, -, z2⟩ := DataW.trod_string Tryd.underlying9 g2
  injection e0 with e0 _
  injection e1 with e1 _
  injection e2 with e2 _
  subst e0; subst e1; subst e2
  exact ⟨⟨a0, a1, a2⟩, rfl, z2⟩
theorem col_cells (h : DataW.trod enc Tryd.prog w base spare held fuel 40 cs = some x) : ∃ v : RCol, cs = cEnc v ∧ okC v := by
  obtain ⟨c0, r, y0, y1, n, rfl, g0, g1⟩ := open13 Tryd.underlying40 cells_col ⟨rfl, rfl⟩ ⟨cells_int, cells_val⟩ h
  obtain ⟨a0, e0, -, -⟩ := DataW.trod_int Tryd.underlying3 g0
  obtain ⟨v, rfl, hv⟩ := val_cells g1
  injection e0 with e0 _
  subst e0
  exact ⟨⟨a0, v⟩, rfl, hv⟩
theorem chg_cells (h : DataW.trod enc Tryd.prog w base spare held fuel 42 cs = some x) : ∃ v : RChg, cs = hEnc v ∧ okH v := by
  obtain ⟨c0, c1, r, y0, y1, y2, n, rfl, g0, g1, g2⟩ := open114 Tryd.underlying42 cells_chg ⟨rfl, rfl, rfl⟩ ⟨cells_int, cells_int, cells_col⟩ h
  obtain ⟨a0, e0, -, -⟩ := DataW.trod_int Tryd.underlying3 g0
  obtain ⟨a1, e1, -, -⟩ := DataW.trod_int Tryd.underlying3 g1
  obtain ⟨v, rfl, hv⟩ := col_cells g2
  injection e0 with e0 _
  injection e1 with e1 _
  subst e0; subst e1
  exact ⟨⟨a0, a1, v⟩, rfl, hv⟩
set_option maxRecDepth 100000 in
theorem rows_arg {α : Type} {en : α → List Value} {ok : α → Prop} {k : Nat} (hk : 0 < k) (he : ∀ x, (en x).length = k) {t e : TypeId} (ht : Tryd.prog.underlying t = some (.slice e)) (hC : Tryd.prog.cellsOf e = k)
    (hop : ∀ (fuel : Nat) (cs : List Value) (x : DataW H × List MemPlace), DataW.trod enc Tryd.prog w base spare held fuel e cs = some x → ∃ v : α, cs = en v ∧ ok v)
    {r : Reach} {b0 : Nat} {v : Value} {d : DataW H} {p : List MemPlace} (hv : Value.okWide Tryd.prog w r b0 t v) (h : DataW.Trod enc Tryd.prog w base spare held t v d p) :
    ∃ l, Recs en k w v l ∧ ∀ x ∈ l, ok x := by
  obtain ⟨a, len, cap, rfl⟩ := okWide_slice ht hv
  obtain ⟨fuel, hf⟩ := h
  rcases open_slice ht hf with ⟨hcs, -⟩ | ⟨ad, l, c, m, n, D, Pl, hcs, hb, hl, hm, hmm, hx, hi⟩
  · simp [Value.cells] at hcs
    obtain ⟨rfl, rfl, rfl⟩ := hcs
    exact ⟨[], recs_nil w, fun x hx => by simp at hx⟩
  · simp [Value.cells] at hcs
    obtain ⟨rfl, rfl, rfl⟩ := hcs
    have hc9 : cap ≤ 9223372036854775807 := hm
    have hml : len ≤ m := by rw [hmm]; split <;> omega
    have hall : ∀ i : Fin len, ∃ v : α, ad.spot = none ∧ (∀ j u, (en v)[j]? = some u → w.cell? ⟨ad.block, ad.off + i.val * k + j, none⟩ = some u) ∧ ok v := by
      rintro ⟨i, hil⟩
      obtain ⟨cs', hc, ht'⟩ := hi i (by omega)
      obtain ⟨v, rfl, hok⟩ := hop _ _ _ ht'
      rw [hC] at hc
      obtain ⟨-, hcl, hat⟩ := World.cells?_some hc
      have hs : ad.spot = none := by
        obtain ⟨cs0, hc0, ht0⟩ := hi 0 (by omega)
        obtain ⟨v0, rfl, -⟩ := hop _ _ _ ht0
        rw [hC] at hc0
        have h0 := (World.cells?_some hc0).2.2 0 hk
        rw [List.getElem?_eq_getElem (by rw [he]; exact hk)] at h0
        have := World.cell?_spot h0
        simpa [Addr.add] using this
      refine ⟨v, hs, fun j u hu => ?_, hok⟩
      have hj : j < k := by rw [← he v]; exact (List.getElem?_eq_some_iff.1 hu).1
      have h1 := hat j hj
      obtain ⟨b, off, spot⟩ := ad
      cases hs
      rw [Addr.add_lit, Addr.add_lit, hu] at h1
      exact h1
    obtain ⟨F, hF⟩ := Classical.axiomOfChoice hall
    by_cases h0 : len = 0
    · subst h0
      exact ⟨[], ⟨some ad, cap, rfl, by simp, hc9, (fun h => by cases h), .inl rfl⟩, fun x hx => by simp at hx⟩
    · obtain ⟨b, off, spot⟩ := ad
      have hsp := (hF ⟨0, by omega⟩).1
      cases hsp
      have hlt : b < w.heap.size := by
        have := (hF ⟨0, by omega⟩).2.1 0 _ (List.getElem?_eq_getElem (by rw [he]; exact hk))
        exact lt_cell this
      refine ⟨List.ofFn F, ⟨some ⟨b, off, none⟩, cap, by rw [List.length_ofFn], by rw [List.length_ofFn]; exact hl, hc9, (fun h => by cases h), .inr ⟨b, off, rfl, hlt, fun i hi j u hu => ?_⟩⟩, fun x hx => ?_⟩
      · rw [List.getElem_ofFn] at hu
        exact (hF ⟨i, by simpa using hi⟩).2.1 j u hu
      · obtain ⟨i, hi, rfl⟩ := List.getElem_of_mem hx
        rw [List.getElem_ofFn]
        exact (hF _).2.2
set_option maxRecDepth 100000 in
theorem columns_arg {r : Reach} {b0 : Nat} {v : Value} {d : DataW H} {p : List MemPlace} (hv : Value.okWide Tryd.prog w r b0 37 v) (h : DataW.Trod enc Tryd.prog w base spare held 37 v d p) : ∃ l, Recs cEnc 4 w v l ∧ ∀ x ∈ l, okC x :=
  rows_arg (by decide) cEnc_len Tryd.underlying37 cells_col (fun _ _ _ h => col_cells h) hv h
set_option maxRecDepth 100000 in
theorem values_arg {r : Reach} {b0 : Nat} {v : Value} {d : DataW H} {p : List MemPlace} (hv : Value.okWide Tryd.prog w r b0 63 v) (h : DataW.Trod enc Tryd.prog w base spare held 63 v d p) : ∃ l, Recs vEnc 3 w v l ∧ ∀ x ∈ l, okV x :=
  rows_arg (by decide) vEnc_len Tryd.underlying63 cells_val (fun _ _ _ h => val_cells h) hv h
set_option maxRecDepth 100000 in
theorem changes_arg {r : Reach} {b0 : Nat} {v : Value} {d : DataW H} {p : List MemPlace} (hv : Value.okWide Tryd.prog w r b0 68 v) (h : DataW.Trod enc Tryd.prog w base spare held 68 v d p) : ∃ l, Recs hEnc 6 w v l ∧ ∀ x ∈ l, okH x :=
  rows_arg (by decide) hEnc_len Tryd.underlying68 cells_chg (fun _ _ _ h => chg_cells h) hv h
set_option maxRecDepth 100000 in
theorem change_arg {r : Reach} {b0 : Nat} {v : Value} {d : DataW H} {p : List MemPlace} (hv : Value.okWide Tryd.prog w r b0 42 v) (h : DataW.Trod enc Tryd.prog w base spare held 42 v d p) : ∃ c : RChg, v = (.agg #[.int .i64 c.k, .int .i64 c.a, .int .i64 c.c.k, .int .i64 c.c.d.k, .int .i64 c.c.d.n, .string c.c.d.s]) ∧ okH c := by
  obtain ⟨cs, rfl, -⟩ := okWide_struct Tryd.underlying42 hv
  obtain ⟨fuel, hf⟩ := h
  obtain ⟨c, hc, ho⟩ := chg_cells hf
  refine ⟨c, ?_, ho⟩
  obtain ⟨l⟩ := cs
  simp [Value.cells, hEnc] at hc
  rw [hc]
end
end Go.Proofs.YtdijcdadcbhipaaDoor
