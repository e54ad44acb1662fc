/-
  withLeaves of the specification: a row of leaves of which each can be read.
-/
import Derived.Test.YtmlphdniiiijpaaTreeS1
set_option linter.all false
namespace Go.Proofs.Ytmlphdniiiijpaa
open Go.RowKit
def Off (lv : Value) (f : List Itm) (v : Value) : Prop := f ≠ [] → ∀ a n c, lv = .slice (some a) n c → v.ownBlock ≠ some a.block
/-- leaves that can be read, none of which lies in the row v -/
def LfR (w : World) (v : Value) (ys : List Value) (gs : List (List Itm)) : Prop := ys.length = gs.length ∧ ∀ i (h : i < gs.length), ∃ lv, ys[i]? = some lv ∧ Itms w lv gs[i] ∧ NilOk lv ∧ Off lv gs[i] v
def OwnR (B : Nat) (w : World) (v : Value) (fs : List (List Itm)) : Prop := ∃ xs, w.ownsRow B 28 1 v fs.length xs ∧ LfR w v xs fs
theorem Itms.kept {w w' : World} {lv : Value} {f : List Itm} {row : Option Nat} (h : Itms w lv f) (hg : w.grownBy w' row) (ho : f ≠ [] → ∀ a n c, lv = .slice (some a) n c → row ≠ some a.block) : Itms w' lv f := by
  obtain ⟨a, cap, rfl, h1, h2, hd⟩ := h
  refine ⟨a, cap, rfl, h1, h2, ?_⟩
  rcases hd with hd | ⟨b, off, rfl, hb, hc⟩
  · exact .inl hd
  · by_cases hf : f = []
    · exact .inl hf
    · have hne := ho hf _ _ _ rfl
      have hq : ∀ o, w'.cell? ⟨b, o, none⟩ = w.cell? ⟨b, o, none⟩ := fun o => World.cell?_of_block (a := ⟨b, o, none⟩) (hg.block b hb (fun e => hne e.symm))
      exact .inr ⟨b, off, rfl, Nat.lt_of_lt_of_le hb hg.size, fun i hi => ⟨(hq _).trans (hc i hi).1, (hq _).trans (hc i hi).2⟩⟩
theorem LfR.keep {w w' : World} {v : Value} {ys : List Value} {gs : List (List Itm)} (h : LfR w v ys gs) (hb : Below w.heap.size w w') : LfR w' v ys gs :=
  ⟨h.1, fun i hi => by obtain ⟨lv, e, h1, h2, h3⟩ := h.2 i hi; exact ⟨lv, e, h1.keep hb, h2, h3⟩⟩
theorem OwnR.keep {B : Nat} {w w' : World} {v : Value} {fs : List (List Itm)} (h : OwnR B w v fs) (hb : Below w.heap.size w w') : OwnR B w' v fs := by
  obtain ⟨xs, ho, hx⟩ := h
  exact ⟨xs, World.ownsRow.kept ho (grown_below hb none) (by cases v.ownBlock <;> simp), hx.keep hb⟩
theorem OwnR.lvs {B : Nat} {w : World} {v : Value} {fs : List (List Itm)} (h : OwnR B w v fs) : Lvs w v fs := by
  obtain ⟨xs, ho, hx⟩ := h
  rcases ho.2 with ⟨rfl, h0⟩ | ⟨gr, cap, cur, rfl, hb, hg, h1, h2, h3⟩
  · have hfs : fs = [] := List.length_eq_zero_iff.1 h0
    subst hfs
    exact ⟨none, 0, rfl, by simp, by omega, .inl rfl⟩
  · refine ⟨_, cap, rfl, h1, h2, .inr ⟨gr, 0, rfl, lt_block hg, fun i hi => ?_⟩⟩
    obtain ⟨lv, e1, e2, e3, -⟩ := hx.2 i hi
    exact ⟨lv, by rw [Nat.zero_add, World.ownsRow.cellAt ho _ (by have := hx.1; omega)]; exact e1, e2, e3⟩
/-- a store into a box of a slice ahead of the row -/
theorem OwnR.box {B g : Nat} {w : World} {v u : Value} {fs : List (List Itm)} {a0 : Option Addr} {n0 c0 : Nat} {ty : TypeId} (h : OwnR B w v fs) (hg : g < B) (hb : w.heap[g]? = some (.cells #[.slice a0 n0 c0] ty (0, 0))) : OwnR B (w.setCell ⟨g, 0, none⟩ u) v fs := by
  obtain ⟨xs, ho, hx⟩ := h
  refine ⟨xs, own_by ho (grown_setCell _ _ _ _) (fun e => by have := (World.ownsRow.lt ho _ e).1; omega), hx.1, fun i hi => ?_⟩
  obtain ⟨lv, e, h1, h2, h3⟩ := hx.2 i hi
  refine ⟨lv, e, h1.kept (grown_setCell _ _ _ _) (fun hf a n c e q => ?_), h2, h3⟩
  obtain ⟨a', cap, e', -, -, hd⟩ := h1
  obtain ⟨b, off, e2, -, hc⟩ := hd.resolve_left hf
  rw [e] at e'
  injection e' with e' _ _
  rw [← e'] at e2
  injection e2 with e2
  subst e2
  injection q with q
  simp only at q
  subst q
  have h0 := (hc 0 (List.length_pos_iff.2 hf)).1
  rw [cell_block hb] at h0
  rcases Nat.eq_zero_or_pos (off + 0 * 2) with hz | hz
  · rw [hz] at h0; simp at h0
  · rw [Array.getElem?_eq_none (by simp; omega)] at h0; cases h0
theorem OwnR.mono {B B' : Nat} {w : World} {v : Value} {fs : List (List Itm)} (h : OwnR B w v fs) (hb : B' ≤ B) : OwnR B' w v fs := by
  obtain ⟨xs, ho, hx⟩ := h
  exact ⟨xs, own_mono ho hb, hx⟩
theorem OwnR.nil_eq {B : Nat} {w : World} {v : Value} {fs : List (List Itm)} (h : OwnR B w v fs) : ∃ a c, v = .slice a fs.length c := by
  obtain ⟨xs, ho, -⟩ := h
  obtain ⟨a, c, e, -⟩ := own_slc ho
  exact ⟨a, c, e⟩
theorem ownR_none (B : Nat) (w : World) : OwnR B w (.slice none 0 0) [] := ⟨[], World.ownsRow_nil _ _ _ _, rfl, fun i h => by simp at h⟩
theorem OwnL.toR {B : Nat} {w : World} {v : Value} {fs : List (List Itm)} (h : OwnL B w v fs) : OwnR B w v fs := by
  obtain ⟨xs, ho, hx, ha⟩ := h
  refine ⟨xs, ho, hx.len, fun i hi => ?_⟩
  obtain ⟨lv, e, hl⟩ := hx.own i hi
  exact ⟨lv, e, hl.itms, nilOk_own hl, fun _ a n c e' => ha i lv e a.block (by rw [e']; rfl)⟩
theorem itms_box {w : World} {g : Nat} {lv : Value} {f : List Itm} {a0 : Option Addr} {n0 c0 : Nat} {ty : TypeId} (hb : w.heap[g]? = some (.cells #[.slice a0 n0 c0] ty (0, 0))) (h1 : Itms w lv f) (hf : f ≠ []) {a : Addr} {n c : Nat} (e : lv = .slice (some a) n c) : some g ≠ some a.block := by
  intro q
  obtain ⟨a', cap, e', -, -, hd⟩ := h1
  obtain ⟨b, off, e2, -, hc⟩ := hd.resolve_left hf
  rw [e] at e'
  injection e' with e' _ _
  rw [← e'] at e2
  injection e2 with e2
  subst e2
  injection q with q
  simp only at q
  subst q
  have h0 := (hc 0 (List.length_pos_iff.2 hf)).1
  rw [cell_block hb] at h0
  rcases Nat.eq_zero_or_pos (off + 0 * 2) with hz | hz
  · rw [hz] at h0; simp at h0
  · rw [Array.getElem?_eq_none (by simp; omega)] at h0; cases h0
/-- a store into a box of a tree -/
theorem OwnR.boxT {B g : Nat} {w : World} {v u : Value} {fs : List (List Itm)} {a0 : Option Addr} {n0 c0 : Nat} (h : OwnR B w v fs) (hb : w.heap[g]? = some (.cells #[.slice a0 n0 c0] 25 (0, 0))) : OwnR B (w.setCell ⟨g, 0, none⟩ u) v fs := by
  obtain ⟨xs, ho, hx⟩ := h
  refine ⟨xs, own_by ho (grown_setCell _ _ _ _) (fun e => ?_), hx.1, fun i hi => ?_⟩
  · rcases ho.2 with ⟨rfl, -⟩ | ⟨gr, cap, cur, rfl, -, hg, -⟩
    · simp [Value.ownBlock] at e
    · have e : gr = g := by injection e
      subst e
      rw [hb] at hg
      injection hg with hg
      injection hg with _ hg _
      exact absurd hg (by decide)
  · obtain ⟨lv, e, h1, h2, h3⟩ := hx.2 i hi
    exact ⟨lv, e, h1.kept (grown_setCell _ _ _ _) (fun hf a n c e => itms_box hb h1 hf e), h2, h3⟩
theorem ownR_lit {W : World} {b B : Nat} (hb : b = W.heap.size) (hB : B ≤ W.heap.size) : OwnR B (W.alloc (.cells #[] 28)) (.slice (some ⟨b, 0, none⟩) 0 0) [] :=
  ⟨[], own_lit_at hb hB, rfl, fun i h => by simp at h⟩
theorem ownR_any {B : Nat} {w : World} {v : Value} {fs : List (List Itm)} (h : OwnR B w v fs) : ∃ a n c, v = .slice a n c := by
  obtain ⟨xs, ho, -⟩ := h
  obtain ⟨a, c, e, -⟩ := own_slc ho
  exact ⟨a, _, c, e⟩
theorem lfR_lt {w : World} {v : Value} {lv : Value} {f : List Itm} (h : Itms w lv f) (hf : f ≠ []) {a : Addr} {n c : Nat} (e : lv = .slice (some a) n c) : a.block < w.heap.size := by
  obtain ⟨a', cap, rfl, h1, h2, hd⟩ := h
  obtain ⟨b, off, rfl, hb, -⟩ := hd.resolve_left hf
  injection e with e
  injection e with e
  subst e
  exact hb
/-- append of leaves that can be read to a row of the call's own -/
theorem wpList_appR {w : World} {ops : Array Oper} {rest : List Oper} {o : Oper} {a : Act} {Q : Exit → Act → World → Prop} (hgd : o.guard = none) (s x : Operand)
    (ho : o.op = .call { callee := .builtin .append, args := #[s, x], argTypes := #[23, 23] })
    (B : Nat) (v0 : Value) (fs : List (List Itm)) (hs : a.eval s = v0) (hown : OwnR B w v0 fs) (hB : B ≤ w.heap.size) (h0 : fs.length ≤ 1048576)
    (v : Value) (ys : List Value) (gs : List (List Itm)) (hx : a.eval x = v) (hv : News w v ys) (hnew : LfR w v0 ys gs) (hn : gs.length ≤ 1048576)
    (hK : ∀ v' w', OwnR B w' v' (fs ++ gs) → Below B w w' → wpList Try.prog ops Q rest (a.put o.dst v') w') : wpList Try.prog ops Q (o :: rest) a w := by
  obtain ⟨i0, hi, hz0, hz1, hz2⟩ := info_parts infoLf
  obtain ⟨xs, hr, hlv⟩ := hown
  have hlt : ∀ k, v0.ownBlock = some k → B ≤ k := fun k hk => (World.ownsRow.lt hr k hk).1
  have hyl := hnew.1
  rcases hv with ⟨rfl, rfl⟩ | ⟨ad, cap, rfl, hc⟩
  · have hgs : gs = [] := List.length_eq_zero_iff.1 (by rw [← hyl]; rfl)
    subst hgs
    have hrun := run_append_owned_none (P := Try.prog) w B 23 o.type 28 i0 1 Try.underlying23 hi v0 fs.length xs hr
    refine Lib.wpList_append_run w hgd s x _ _ ho _ _ hs hx _ _ hrun ?_
    exact hK v0 w (by rw [List.append_nil]; exact ⟨xs, hr, hlv⟩) (Below.refl _ _)
  · have hone : ∀ u ∈ ys, u.oneCell' = true := by
      intro u hu
      obtain ⟨i, hi, rfl⟩ := List.getElem_of_mem hu
      obtain ⟨lv, e, h1, -⟩ := hnew.2 i (by omega)
      rw [List.getElem?_eq_getElem hi] at e
      injection e with e
      obtain ⟨a', c', e'⟩ := itms_shape h1
      rw [e, e']; rfl
    obtain ⟨v', w', hrun, h2, h3, -, h5⟩ := run_append_own_at (P := Try.prog) w B 23 o.type 28 i0 _ 1 24 Try.underlying23 hi hz0 hz1 hz2 rfl (by decide) v0 fs.length xs hr ad ys.length cap ys (by omega) hc hone (by unfold maxLen; omega) (by omega) (by omega)
    refine Lib.wpList_append_run w hgd s x _ _ ho _ _ hs hx _ _ hrun ?_
    refine hK v' w' ⟨xs ++ ys, by rw [List.length_append, ← hyl]; exact h2, by rw [List.length_append, List.length_append, hlv.1, hyl], fun i hi => ?_⟩ ((Below.refl B w).grown h3 (by omega) hlt)
    have key : ∀ lv f, Itms w lv f → Off lv f v0 → Itms w' lv f ∧ Off lv f v' := fun lv f h1 h2 => ⟨h1.kept h3 (fun hf a n c e => h2 hf a n c e), fun hf a n c e => by
      rcases h5 with h5 | h5
      · rw [h5]; exact h2 hf a n c e
      · rw [h5]; intro q; injection q with q; have := lfR_lt (v := v0) h1 hf e; omega⟩
    by_cases c : i < fs.length
    · obtain ⟨lv, e, h1, h2, h4⟩ := hlv.2 i c
      refine ⟨lv, by rw [List.getElem?_append_left (by rw [hlv.1]; exact c)]; exact e, ?_⟩
      rw [List.getElem_append_left c]
      exact ⟨(key _ _ h1 h4).1, h2, (key _ _ h1 h4).2⟩
    · rw [List.length_append] at hi
      obtain ⟨lv, e, h1, h2, h4⟩ := hnew.2 (i - fs.length) (by omega)
      refine ⟨lv, by rw [List.getElem?_append_right (by rw [hlv.1]; omega), hlv.1]; exact e, ?_⟩
      rw [List.getElem_append_right (by omega)]
      exact ⟨(key _ _ h1 h4).1, h2, (key _ _ h1 h4).2⟩
theorem lfR_low {w w' : World} {v : Value} {ys : List Value} {gs : List (List Itm)} (h : ys.length = gs.length ∧ ∀ i (h : i < gs.length), ∃ lv, ys[i]? = some lv ∧ Itms w lv gs[i] ∧ NilOk lv) (hb : Below w.heap.size w w') (hv : ∀ k, v.ownBlock = some k → w.heap.size ≤ k) : LfR w' v ys gs :=
  ⟨h.1, fun i hi => by
    obtain ⟨lv, e, h1, h2⟩ := h.2 i hi
    exact ⟨lv, e, h1.keep hb, h2, fun hf a n c e q => by have := lfR_lt (v := v) h1 hf e; have := hv _ q; omega⟩⟩
theorem lfR_one {w : World} {v lv : Value} {f : List Itm} (h : Itms w lv f) (hn : NilOk lv) (ho : Off lv f v) : LfR w v [lv] [f] :=
  ⟨rfl, fun i hi => by
    have : i = 0 := by simp at hi; exact hi
    subst this
    exact ⟨lv, rfl, h, hn, ho⟩⟩
end Go.Proofs.Ytmlphdniiiijpaa
