/-
  Formats in memory: a row of rows of columns, each in a block of its own.
-/
import Derived.Test.YtdijcdadcbhipaaDoorFCh
import Derived.Test.YtdijcdadcbhipaaDoorFR2
import Derived.Deep.LoopGhost
import Derived.Maps.AppendAt
set_option linter.all false
namespace Go.Proofs.YtdijcdadcbhipaaDoor
open Go.RowKit
theorem OwnC.keepL {B : Nat} {w w' : World} {v : Value} {l : List RCol} (h : OwnC B w v l) (hb : Below w.heap.size w w') : OwnC B w' v l := OwnR.keep h hb
theorem OwnC.itms {B : Nat} {w : World} {v : Value} {l : List RCol} (h : OwnC B w v l) : Recs cEnc 4 w v l := OwnR.recs cEnc_len h
theorem own_by {B size n g : Nat} {e : TypeId} {w w' : World} {v : Value} {xs : List Value} (h : w.ownsRow B e size v n xs) (hg : w.grownBy w' (some g)) (hne : v.ownBlock ≠ some g) : w'.ownsRow B e size v n xs :=
  World.ownsRow.kept h hg (by
    cases hv : v.ownBlock with
    | none => exact .inl rfl
    | some k => exact .inr (by rw [← hv]; exact hne))
theorem own_kept2 {B size n : Nat} {e : TypeId} {w w' : World} {v u : Value} {xs : List Value} (h : w.ownsRow B e size v n xs) (hg : w.grownBy w' u.ownBlock) (hne : ∀ k, u.ownBlock = some k → v.ownBlock ≠ some k) : w'.ownsRow B e size v n xs :=
  World.ownsRow.kept h hg (by
    cases hv : v.ownBlock with
    | none => exact .inl rfl
    | some k => exact .inr (fun e => hne k e.symm hv))
theorem own_lit_at {W : World} {b B : Nat} {e : TypeId} {size : Nat} (hb : b = W.heap.size) (hB : B ≤ W.heap.size) : (W.alloc (.cells #[] e)).ownsRow B e size (.slice (some ⟨b, 0, none⟩) 0 0) 0 [] := by
  subst hb
  exact World.ownsRow_lit W #[] 0 hB (by decide) (by simp)
theorem own_mono {B B' size n : Nat} {e : TypeId} {w : World} {v : Value} {xs : List Value} (h : w.ownsRow B e size v n xs) (hb : B' ≤ B) : w.ownsRow B' e size v n xs := by
  refine ⟨h.1, ?_⟩
  rcases h.2 with h | ⟨g, cap, cur, h1, h2, h3⟩
  · exact .inl h
  · exact .inr ⟨g, cap, cur, h1, Nat.le_trans hb h2, h3⟩
/-- nil means nil -/
def NilOk (v : Value) : Prop := ∀ n c, v = .slice none n c → c = 0
theorem nilOk_some {b : Addr} {n c : Nat} : NilOk (.slice (some b) n c) := fun _ _ e => by cases e
theorem nilOk_own {B size n : Nat} {e : TypeId} {w : World} {v : Value} {xs : List Value} (h : w.ownsRow B e size v n xs) : NilOk v := fun n' c e => by
  rcases h.2 with ⟨rfl, _⟩ | ⟨g, cap, cur, rfl, _⟩
  · injection e with _ _ e; exact e.symm
  · cases e
/-- leaves in memory: a row of rows of items -/
def Lvs (w : World) (v : Value) (t : List (List RCol)) : Prop := ∃ a cap, v = .slice a t.length cap ∧ t.length ≤ cap ∧ cap ≤ 9223372036854775807 ∧
  (t = [] ∨ ∃ b off, a = some ⟨b, off, none⟩ ∧ b < w.heap.size ∧ ∀ i (h : i < t.length), ∃ lv, w.cell? ⟨b, off + i, none⟩ = some lv ∧ Recs cEnc 4 w lv t[i] ∧ NilOk lv)
theorem Lvs.keep {w w' : World} {v : Value} {t : List (List RCol)} (h : Lvs w v t) (hb : Below w.heap.size w w') : Lvs w' v t := by
  obtain ⟨a, cap, rfl, hl, hc, hd⟩ := h
  refine ⟨a, cap, rfl, hl, hc, ?_⟩
  rcases hd with hd | ⟨b, off, rfl, hlt, hcell⟩
  · exact .inl hd
  · refine .inr ⟨b, off, rfl, Nat.lt_of_lt_of_le hlt hb.size, fun i hi => ?_⟩
    obtain ⟨lv, h1, h2, h3⟩ := hcell i hi
    exact ⟨lv, (hb.cell hlt).trans h1, h2.keep hb, h3⟩
theorem infoLf : (Tryd.prog.info? 23).map (fun i => (i.zero, i.size, i.bytes)) = some (some (.slice none 0 0), 1, 24) := by kernel_rfl
def Apart (u v : Value) : Prop := ∀ k, u.ownBlock = some k → v.ownBlock ≠ some k
/-- leaves, each owned, in different blocks -/
structure LvsX (B : Nat) (w : World) (xs : List Value) (fs : List (List RCol)) : Prop where
  len : xs.length = fs.length
  own : ∀ i (h : i < fs.length), ∃ lv, xs[i]? = some lv ∧ OwnC B w lv fs[i]
  ap : ∀ (i j : Nat) (lv lu : Value), i < j → xs[i]? = some lv → xs[j]? = some lu → Apart lv lu
theorem LvsX.nil (B : Nat) (w : World) : LvsX B w [] [] := ⟨rfl, fun i h => by simp at h, fun i j lv lu _ h => by simp at h⟩
theorem LvsX.one {B : Nat} {w : World} {lv : Value} {f : List RCol} (h : OwnC B w lv f) : LvsX B w [lv] [f] := by
  refine ⟨rfl, fun i hi => ?_, fun i j lv lu hij _ h => ?_⟩
  · have : i = 0 := by simp at hi; exact hi
    subst this
    exact ⟨lv, rfl, h⟩
  · obtain ⟨d, rfl⟩ : ∃ d, j = d + 1 := ⟨j - 1, by omega⟩
    simp at h
theorem LvsX.get {B : Nat} {w : World} {xs : List Value} {fs : List (List RCol)} (h : LvsX B w xs fs) {i : Nat} {lv : Value} (hi : xs[i]? = some lv) : ∃ hf : i < fs.length, OwnC B w lv fs[i] := by
  have hl := (List.getElem?_eq_some_iff.1 hi).1
  rw [h.len] at hl
  obtain ⟨lu, e, ho⟩ := h.own i hl
  rw [hi] at e
  injection e with e
  subst e
  exact ⟨hl, ho⟩
theorem LvsX.lt {B : Nat} {w : World} {xs : List Value} {fs : List (List RCol)} (h : LvsX B w xs fs) {i : Nat} {lv : Value} (hi : xs[i]? = some lv) {k : Nat} (hk : lv.ownBlock = some k) : B ≤ k ∧ k < w.heap.size := by
  obtain ⟨_, ho⟩ := h.get hi
  exact World.ownsRow.lt ho k hk
theorem LvsX.map {B B' : Nat} {w w' : World} {xs : List Value} {fs : List (List RCol)} (h : LvsX B w xs fs) (hm : ∀ (i : Nat) lv f, xs[i]? = some lv → OwnC B w lv f → OwnC B' w' lv f) : LvsX B' w' xs fs :=
  ⟨h.len, fun i hi => by obtain ⟨lv, e, ho⟩ := h.own i hi; exact ⟨lv, e, hm i lv _ e ho⟩, h.ap⟩
theorem LvsX.keep {B : Nat} {w w' : World} {xs : List Value} {fs : List (List RCol)} (h : LvsX B w xs fs) (hb : Below w.heap.size w w') : LvsX B w' xs fs := h.map fun _ _ _ _ ho => OwnC.keepL ho hb
theorem LvsX.mono {B B' : Nat} {w : World} {xs : List Value} {fs : List (List RCol)} (h : LvsX B w xs fs) (hb : B' ≤ B) : LvsX B' w xs fs := h.map fun _ _ _ _ ho => own_mono ho hb
theorem LvsX.append {B N : Nat} {w : World} {xs ys : List Value} {fs gs : List (List RCol)} (h : LvsX B w xs fs) (k : LvsX N w ys gs) (hB : B ≤ N) (hx : ∀ (i : Nat) lv k, xs[i]? = some lv → lv.ownBlock = some k → k < N) : LvsX B w (xs ++ ys) (fs ++ gs) := by
  refine ⟨by rw [List.length_append, List.length_append, h.len, k.len], fun i hi => ?_, fun i j lv lu hij e1 e2 => ?_⟩
  · by_cases c : i < fs.length
    · obtain ⟨lv, e, ho⟩ := h.own i c
      refine ⟨lv, by rw [List.getElem?_append_left (by rw [h.len]; exact c)]; exact e, ?_⟩
      rw [List.getElem_append_left c]; exact ho
    · rw [List.length_append] at hi
      obtain ⟨lv, e, ho⟩ := k.own (i - fs.length) (by omega)
      refine ⟨lv, by rw [List.getElem?_append_right (by rw [h.len]; omega), h.len]; exact e, ?_⟩
      rw [List.getElem_append_right (by omega)]
      exact own_mono ho hB
  · by_cases c1 : i < xs.length
    · rw [List.getElem?_append_left c1] at e1
      by_cases c2 : j < xs.length
      · rw [List.getElem?_append_left c2] at e2
        exact h.ap i j lv lu hij e1 e2
      · rw [List.getElem?_append_right (by omega)] at e2
        intro q hq hq2
        have h1 := hx i lv q e1 hq
        have h2 := (k.lt e2 hq2).1
        omega
    · rw [List.getElem?_append_right (by omega)] at e1
      rw [List.getElem?_append_right (by omega)] at e2
      exact k.ap _ _ lv lu (by omega) e1 e2
/-- a row of leaves that the call owns -/
def OwnL (B : Nat) (w : World) (v : Value) (fs : List (List RCol)) : Prop := ∃ xs, w.ownsRow B 23 1 v fs.length xs ∧ LvsX B w xs fs ∧ ∀ (i : Nat) lv, xs[i]? = some lv → Apart lv v
theorem OwnL.nil (B : Nat) (w : World) : OwnL B w (.slice none 0 0) [] := ⟨[], World.ownsRow_nil _ _ _ _, LvsX.nil _ _, fun i lv h => by simp at h⟩
theorem ownL_lit {W : World} {b B : Nat} (hb : b = W.heap.size) (hB : B ≤ W.heap.size) : OwnL B (W.alloc (.cells #[] 23)) (.slice (some ⟨b, 0, none⟩) 0 0) [] :=
  ⟨[], own_lit_at hb hB, LvsX.nil _ _, fun i lv h => by simp at h⟩
theorem ownL_slc {B : Nat} {w : World} {v : Value} {fs : List (List RCol)} (h : OwnL B w v fs) : ∃ a c, v = .slice a fs.length c ∧ fs.length ≤ c ∧ c ≤ 9223372036854775807 := by
  obtain ⟨xs, ho, -⟩ := h
  exact own_slc ho
theorem OwnL.keep {B : Nat} {w w' : World} {v : Value} {fs : List (List RCol)} (h : OwnL B w v fs) (hb : Below w.heap.size w w') : OwnL B w' v fs := by
  obtain ⟨xs, ho, hx, ha⟩ := h
  exact ⟨xs, World.ownsRow.kept ho (grown_below hb none) (by cases v.ownBlock <;> simp), hx.keep hb, ha⟩
theorem OwnL.mono {B B' : Nat} {w : World} {v : Value} {fs : List (List RCol)} (h : OwnL B w v fs) (hb : B' ≤ B) : OwnL B' w v fs := by
  obtain ⟨xs, ho, hx, ha⟩ := h
  exact ⟨xs, own_mono ho hb, hx.mono hb, ha⟩
/-- a store into a block ahead of the row and its leaves -/
theorem OwnL.low {B k j : Nat} {w : World} {v u : Value} {fs : List (List RCol)} (h : OwnL B w v fs) (hk : k < B) : OwnL B (w.setCell ⟨k, j, none⟩ u) v fs := by
  obtain ⟨xs, ho, hx, ha⟩ := h
  have hn : ∀ {size n : Nat} {e : TypeId} {v : Value} {xs : List Value}, w.ownsRow B e size v n xs → v.ownBlock ≠ some k := fun h e => by have := (World.ownsRow.lt h _ e).1; omega
  exact ⟨xs, own_by ho (grown_setCell _ _ _ _) (hn ho), hx.map fun _ _ _ _ ho => own_by ho (grown_setCell _ _ _ _) (hn ho), ha⟩
theorem OwnL.lvs {B : Nat} {w : World} {v : Value} {fs : List (List RCol)} (h : OwnL B w v fs) : Lvs w v fs := by
  obtain ⟨xs, ho, hx, -⟩ := h
  rcases ho.2 with ⟨rfl, h0⟩ | ⟨gr, cap, cur, rfl, hb, hg, h1, h2, h3⟩
  · have hfs : fs = [] := List.length_eq_zero_iff.1 h0
    subst hfs
    exact ⟨none, 0, rfl, by simp, by omega, .inl rfl⟩
  · refine ⟨_, cap, rfl, h1, h2, .inr ⟨gr, 0, rfl, lt_block hg, fun i hi => ?_⟩⟩
    obtain ⟨lv, e1, e2⟩ := hx.own i hi
    exact ⟨lv, by rw [Nat.zero_add, World.ownsRow.cellAt ho _ (by omega)]; exact e1, e2.itms, nilOk_own e2⟩
/-- the cells of a row of leaves, or none -/
def News (w : World) (v : Value) (ys : List Value) : Prop := (v = .slice none 0 0 ∧ ys = []) ∨ ∃ ad cap, v = .slice (some ad) ys.length cap ∧ ∀ j u, ys[j]? = some u → w.cell? (ad.add j) = some u
theorem News.keep {w w' : World} {v : Value} {ys : List Value} (h : News w v ys) (hb : Below w.heap.size w w') : News w' v ys := by
  rcases h with h | ⟨ad, cap, rfl, h⟩
  · exact .inl h
  · exact .inr ⟨ad, cap, rfl, fun j u hu => (hb.cell (lt_cell (h j u hu))).trans (h j u hu)⟩
theorem OwnL.news {B : Nat} {w : World} {v : Value} {fs : List (List RCol)} (h : OwnL B w v fs) : ∃ ys, News w v ys ∧ LvsX B w ys fs := by
  obtain ⟨xs, ho, hx, -⟩ := h
  refine ⟨xs, ?_, hx⟩
  rcases ho.2 with ⟨rfl, h0⟩ | ⟨gr, cap, cur, rfl, hb, hg, h1, h2, h3⟩
  · exact .inl ⟨rfl, List.length_eq_zero_iff.1 (by rw [hx.len]; exact h0)⟩
  · refine .inr ⟨⟨gr, 0, none⟩, cap, by rw [hx.len], fun j u hu => ?_⟩
    have hj := (List.getElem?_eq_some_iff.1 hu).1
    rw [hx.len] at hj
    rw [Addr.add_lit, Nat.zero_add, World.ownsRow.cellAt ho _ (by omega)]
    exact hu
theorem lvsX_one {B : Nat} {w : World} {ys : List Value} {gs : List (List RCol)} (h : LvsX B w ys gs) : ∀ u ∈ ys, u.oneCell' = true := by
  intro u hu
  obtain ⟨i, hi, rfl⟩ := List.getElem_of_mem hu
  obtain ⟨_, ho⟩ := h.get (List.getElem?_eq_getElem hi)
  obtain ⟨a, c, e, -⟩ := own_slc ho
  rw [e]; rfl
/-- what an append leaves -/
theorem OwnL.app {B : Nat} {w0 w w3 : World} {v v' : Value} {fs gs : List (List RCol)} {xs ys : List Value} (ho : w0.ownsRow B 23 1 v fs.length xs) (hx : LvsX B w0 xs fs) (ha : ∀ (i : Nat) lv, xs[i]? = some lv → Apart lv v)
    (hB : B ≤ w0.heap.size) (hb : Below w0.heap.size w0 w) (hnew : LvsX w0.heap.size w ys gs)
    (hown : w3.ownsRow B 23 1 v' (fs.length + gs.length) (xs ++ ys)) (hgrow : w.grownBy w3 v.ownBlock) (hat : v'.ownBlock = v.ownBlock ∨ v'.ownBlock = some w.heap.size) : OwnL B w3 v' (fs ++ gs) := by
  have hs := hb.size
  have hapv : ∀ (i : Nat) lv, (xs ++ ys)[i]? = some lv → Apart lv v := fun i lv e => by
    by_cases c : i < xs.length
    · rw [List.getElem?_append_left c] at e
      exact ha i lv e
    · rw [List.getElem?_append_right (by omega)] at e
      intro k h1 h2
      have := (hnew.lt e h1).1
      have := (World.ownsRow.lt ho _ h2).2
      omega
  have hall := (hx.keep hb).append hnew hB (fun i lv k e hk => (hx.lt e hk).2)
  refine ⟨xs ++ ys, by rw [List.length_append]; exact hown, hall.map fun i lv f e ho' => own_kept2 ho' hgrow (fun k h1 h2 => hapv i lv e k h2 h1), fun i lv e k h1 h2 => ?_⟩
  rcases hat with h | h
  · rw [h] at h2; exact hapv i lv e k h1 h2
  · rw [h] at h2
    injection h2 with h2
    have := (hall.lt e h1).2
    omega
/-- append of leaves to a row of leaves -/
theorem wpList_appL {w : World} {ops : Array Oper} {rest : List Oper} {o : Oper} {a : Act} {Q : Exit → Act → World → Prop} (hgd : o.guard = none) (s x : Operand)
    (ho : o.op = .call { callee := .builtin .append, args := #[s, x], argTypes := #[52, 52] })
    (B : Nat) (w0 : World) (v0 : Value) (fs : List (List RCol)) (hs : a.eval s = v0) (hown : OwnL B w0 v0 fs) (hb : Below w0.heap.size w0 w) (hB : B ≤ w0.heap.size) (h0 : fs.length ≤ 1048576)
    (v : Value) (ys : List Value) (gs : List (List RCol)) (hx : a.eval x = v) (hv : News w v ys) (hnew : LvsX w0.heap.size w ys gs) (hn : gs.length ≤ 1048576)
    (hK : ∀ v' w', OwnL B w' v' (fs ++ gs) → Below B w w' → wpList Tryd.prog ops Q rest (a.put o.dst v') w') : wpList Tryd.prog ops Q (o :: rest) a w := by
  obtain ⟨i0, hi, hz0, hz1, hz2⟩ := info_parts infoLf
  obtain ⟨xs, hr, hlv, hap⟩ := hown
  have hr' : w.ownsRow B 23 1 v0 fs.length xs := World.ownsRow.kept hr (grown_below hb none) (by cases v0.ownBlock <;> simp)
  have hbs := hb.size
  have hlt : ∀ k, v0.ownBlock = some k → B ≤ k := fun k hk => (World.ownsRow.lt hr k hk).1
  have hyl := hnew.len
  rcases hv with ⟨rfl, rfl⟩ | ⟨ad, cap, rfl, hc⟩
  · have hgs : gs = [] := List.length_eq_zero_iff.1 (by rw [← hyl]; rfl)
    subst hgs
    have hrun := run_append_owned_none (P := Tryd.prog) w B 52 o.type 23 i0 1 Tryd.underlying52 hi v0 fs.length xs hr'
    refine Lib.wpList_append_run w hgd s x _ _ ho _ _ hs hx _ _ hrun ?_
    exact hK v0 w (by rw [List.append_nil]; exact OwnL.keep (fs := fs) ⟨xs, hr, hlv, hap⟩ hb) (Below.refl _ _)
  · obtain ⟨v', w', hrun, h2, h3, -, h5⟩ := run_append_own_at (P := Tryd.prog) w B 52 o.type 23 i0 _ 1 24 Tryd.underlying52 hi hz0 hz1 hz2 rfl (by decide) v0 fs.length xs hr' ad ys.length cap ys (by omega) hc (lvsX_one hnew) (by unfold maxLen; omega) (by omega) (by omega)
    refine Lib.wpList_append_run w hgd s x _ _ ho _ _ hs hx _ _ hrun ?_
    refine hK v' w' (OwnL.app hr hlv hap hB hb hnew (by rw [← hyl]; exact h2) h3 h5) ((Below.refl B w).grown h3 (by omega) hlt)
section
variable (w : World)
/-- the same as a step of a region that draws its order -/
theorem step_appL {ops : Array Oper} {o : Oper} {a : Act} {K : Act → World → Prop} {Q : Exit → Act → World → Prop} {E : Prop} (hgd : o.guard = none) (s x : Operand)
    (ho : o.op = .call { callee := .builtin .append, args := #[s, x], argTypes := #[52, 52] })
    (B : Nat) (w0 : World) (v0 : Value) (fs : List (List RCol)) (hs : a.eval s = v0) (hown : OwnL B w0 v0 fs) (hb : Below w0.heap.size w0 w) (hB : B ≤ w0.heap.size) (h0 : fs.length ≤ 1048576)
    (v : Value) (ys : List Value) (gs : List (List RCol)) (hx : a.eval x = v) (hv : News w v ys) (hnew : LvsX w0.heap.size w ys gs) (hn : gs.length ≤ 1048576)
    (hK : ∀ v' w', OwnL B w' v' (fs ++ gs) → Below B w w' → K (a.put o.dst v') w') :
    if Region.wanted o (yielded ops a.tmps) = true then Oper.wp Tryd.prog o a w K Q else E := by
  have hw : Region.wanted o (yielded ops a.tmps) = true := by simp [Region.wanted, hgd]
  rw [if_pos hw]
  obtain ⟨i0, hi, hz0, hz1, hz2⟩ := info_parts infoLf
  obtain ⟨xs, hr, hlv, hap⟩ := hown
  have hr' : w.ownsRow B 23 1 v0 fs.length xs := World.ownsRow.kept hr (grown_below hb none) (by cases v0.ownBlock <;> simp)
  have hbs := hb.size
  have hlt : ∀ k, v0.ownBlock = some k → B ≤ k := fun k hk => (World.ownsRow.lt hr k hk).1
  have hyl := hnew.len
  rcases hv with ⟨rfl, rfl⟩ | ⟨ad, cap, rfl, hc⟩
  · have hgs : gs = [] := List.length_eq_zero_iff.1 (by rw [← hyl]; rfl)
    subst hgs
    have hrun := run_append_owned_none (P := Tryd.prog) w B 52 o.type 23 i0 1 Tryd.underlying52 hi v0 fs.length xs hr'
    unfold Oper.wp execOp
    simp only [ho, resolve, invoke, builtin, Sem.run_bind, Sem.run_pure, Result.andThen_ok, List.map_toArray, List.map_cons, List.map_nil, hs, hx, hrun]
    exact hK v0 w (by rw [List.append_nil]; exact OwnL.keep (fs := fs) ⟨xs, hr, hlv, hap⟩ hb) (Below.refl _ _)
  · obtain ⟨v', w', hrun, h2, h3, -, h5⟩ := run_append_own_at (P := Tryd.prog) w B 52 o.type 23 i0 _ 1 24 Tryd.underlying52 hi hz0 hz1 hz2 rfl (by decide) v0 fs.length xs hr' ad ys.length cap ys (by omega) hc (lvsX_one hnew) (by unfold maxLen; omega) (by omega) (by omega)
    unfold Oper.wp execOp
    simp only [ho, resolve, invoke, builtin, Sem.run_bind, Sem.run_pure, Result.andThen_ok, List.map_toArray, List.map_cons, List.map_nil, hs, hx, hrun]
    exact hK v' w' (OwnL.app hr hlv hap hB hb hnew (by rw [← hyl]; exact h2) h3 h5) ((Below.refl B w).grown h3 (by omega) hlt)
end
end Go.Proofs.YtdijcdadcbhipaaDoor
