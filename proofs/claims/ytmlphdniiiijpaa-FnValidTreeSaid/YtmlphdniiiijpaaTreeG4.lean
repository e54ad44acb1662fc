/-
  The generators of trees with an item or a range.
-/
import Derived.Test.YtmlphdniiiijpaaTreeG3
import Derived.Deep.RegionHeld3
set_option linter.all false
namespace Go.Proofs.Ytmlphdniiiijpaa
open Go.RowKit
theorem bytes_alloc {w : World} {v : Value} (h : BytesAt w v) (o : Obj) : BytesAt (w.alloc o) v := by
  obtain ⟨a, len, cap, rfl, h1, h2, h3⟩ := h
  refine ⟨a, len, cap, rfl, h1, h2, ?_⟩
  rcases h3.keep (below_box w o) (Nat.le_refl _) with h3 | ⟨b, off, e, hlt, hc⟩
  · exact .inl h3
  · exact .inr ⟨b, off, e, by simp; omega, hc⟩
theorem blk_oth {w : World} {b b' o : Nat} {v : Value} {x : Obj} (h : w.heap[b]? = some x) (hne : b ≠ b') : (w.setCell ⟨b', o, none⟩ v).heap[b]? = some x := (Below.heap_setCell w ⟨b', o, none⟩ v b hne).trans h
theorem set_far {k b : Nat} (h : k < b) : ∀ (W : World) (o q : Nat) (u : Value), (W.setCell ⟨k, o, none⟩ u).cell? ⟨b, q, none⟩ = W.cell? ⟨b, q, none⟩ := fun W o q u => World.cell?_setCell_other W _ _ u (fun e => by injection e; omega)
theorem cell_int {w : World} {p q : Addr} {n m : Int} (h : w.cell? q = some (.int .i64 m)) : ∃ r : Int, (w.setCell p (.int .i64 n)).cell? q = some (.int .i64 r) := by
  by_cases e : p = q
  · subst e; exact ⟨n, World.cell?_setCell_same w p _ h⟩
  · exact ⟨m, (World.cell?_setCell_other w p q _ e).trans h⟩
/-- a number stored anywhere leaves items items -/
theorem itms_int {w : World} {p : Addr} {n : Int} {lv : Value} {f : List Itm} (h : Itms w lv f) : ∃ f' : List Itm, f'.length = f.length ∧ Itms (w.setCell p (.int .i64 n)) lv f' := by
  obtain ⟨a, cap, rfl, h1, h2, hd⟩ := h
  rcases hd with rfl | ⟨b, off, rfl, hb, hc⟩
  · exact ⟨[], rfl, a, cap, rfl, h1, h2, .inl rfl⟩
  · have hall : ∀ i : Fin f.length, ∃ e : Itm, ItmAt (w.setCell p (.int .i64 n)) b (off + i.val * 2) e := fun ⟨i, hi⟩ => by
      obtain ⟨q0, q1⟩ := hc i hi
      obtain ⟨r0, e0⟩ := cell_int (p := p) (n := n) q0
      obtain ⟨r1, e1⟩ := cell_int (p := p) (n := n) q1
      exact ⟨⟨r0, r1⟩, e0, e1⟩
    obtain ⟨F, hF⟩ := Classical.axiomOfChoice hall
    exact ⟨List.ofFn F, List.length_ofFn, _, cap, by rw [List.length_ofFn], by rw [List.length_ofFn]; exact h1, h2, .inr ⟨b, off, rfl, by simpa [World.setCell] using hb, fun i hi => by rw [List.getElem_ofFn]; exact hF ⟨i, by simpa using hi⟩⟩⟩
theorem flatT_lens {t t' : List (List Itm)} (h : t'.length = t.length) (hl : ∀ i (h : i < t.length) (h' : i < t'.length), t'[i].length = t[i].length) : (flatT t').length = (flatT t).length := by
  unfold flatT
  rw [List.length_flatten, List.length_flatten]
  congr 1
  exact List.ext_getElem (by simp [h]) (fun i h1 h2 => by simp only [List.getElem_map]; exact hl i (by simpa using h2) (by simpa using h1))
theorem OwnR.int {B k o : Nat} {w : World} {v : Value} {t : List (List Itm)} {cs : Array Value} {n : Int} (h : OwnR B w v t) (hb : w.heap[k]? = some (.cells cs 38 (0, 0))) :
    ∃ t' : List (List Itm), t'.length = t.length ∧ (flatT t').length = (flatT t).length ∧ OwnR B (w.setCell ⟨k, o, none⟩ (.int .i64 n)) v t' := by
  obtain ⟨xs, ho, hx⟩ := h
  have hall : ∀ i : Fin t.length, ∃ f' : List Itm, f'.length = t[i].length ∧ ∃ lv, xs[i.val]? = some lv ∧ Itms (w.setCell ⟨k, o, none⟩ (.int .i64 n)) lv f' ∧ NilOk lv ∧ Off lv f' v := fun ⟨i, hi⟩ => by
    obtain ⟨lv, e, h1, h2, h3⟩ := hx.2 i hi
    obtain ⟨f', hl, h1'⟩ := itms_int (p := ⟨k, o, none⟩) (n := n) h1
    exact ⟨f', hl, lv, e, h1', h2, fun hf => h3 (fun q => hf (List.length_eq_zero_iff.1 (by rw [hl, q]; rfl)))⟩
  obtain ⟨F, hF⟩ := Classical.axiomOfChoice hall
  have hne : v.ownBlock ≠ some k := by
    rcases ho.2 with ⟨rfl, -⟩ | ⟨gr, cap, cur, rfl, -, hg, -⟩
    · simp [Value.ownBlock]
    · intro e
      have e : gr = k := by injection e
      subst e
      rw [hb] at hg
      injection hg with hg
      injection hg with _ hg _
      exact absurd hg (by decide)
  refine ⟨List.ofFn F, List.length_ofFn, flatT_lens List.length_ofFn (fun i h h' => by rw [List.getElem_ofFn]; exact (hF ⟨i, h⟩).1), xs, ?_, ?_, fun i hi => ?_⟩
  · rw [List.length_ofFn]; exact own_by ho (grown_setCell _ _ _ _) hne
  · rw [List.length_ofFn]; exact hx.1
  · rw [List.getElem_ofFn]; exact (hF ⟨i, by simpa using hi⟩).2
/-- a drawn tree v; the results' blocks hold z and the item (a, b) -/
structure DR (w wr : World) (v z : Value) (a b : Int) : Prop where
  ex : ∃ B t, OwnR B wr v t ∧ t.length ≤ 40 ∧ (flatT t).length ≤ 40
  bel : Below w.heap.size w wr
  zs : ∃ x n c, z = .slice x n c
  zt : wr.heap[w.heap.size]? = some (.cells #[z] 25 (0, 0))
  zi : wr.heap[w.heap.size + 1]? = some (.cells #[.int .i64 a, .int .i64 b] 38 (0, 0))
section
variable {w wr : World} {v z u : Value} {a b x : Int}
theorem DR.st (h : DR w wr v z a b) (hu : ∃ x n c, u = .slice x n c) : DR w (wr.setCell ⟨w.heap.size, 0, none⟩ u) v u a b := by
  obtain ⟨B, t, ho, h1, h2⟩ := h.ex
  obtain ⟨x, n, c, rfl⟩ := h.zs
  exact ⟨⟨B, t, ho.boxT h.zt, h1, h2⟩, h.bel.setCell (by simp) _, hu, set_block h.zt 0 u, blk_oth h.zi (by omega)⟩
theorem DR.si0 (h : DR w wr v z a b) (x : Int) : DR w (wr.setCell ⟨w.heap.size + 1, 0, none⟩ (.int .i64 x)) v z x b := by
  obtain ⟨B, t, ho, h1, h2⟩ := h.ex
  obtain ⟨t', e1, e2, ho'⟩ := ho.int (o := 0) (n := x) h.zi
  exact ⟨⟨B, t', ho', by omega, by omega⟩, h.bel.setCell (by simp) _, h.zs, blk_oth h.zt (by omega), set_block h.zi 0 _⟩
theorem DR.si1 (h : DR w wr v z a b) (x : Int) : DR w (wr.setCell ⟨w.heap.size + 1, 1, none⟩ (.int .i64 x)) v z a x := by
  obtain ⟨B, t, ho, h1, h2⟩ := h.ex
  obtain ⟨t', e1, e2, ho'⟩ := ho.int (o := 1) (n := x) h.zi
  exact ⟨⟨B, t', ho', by omega, by omega⟩, h.bel.setCell (by simp) _, h.zs, blk_oth h.zt (by omega), set_block h.zi 1 _⟩
theorem DR.drewN (h : DR w wr v z a b) (n : Nat) : DR w (wr.drewN n) v z a b := ⟨h.ex, below_drewN h.bel n, h.zs, h.zt, h.zi⟩
theorem DR.drew (h : DR w wr v z a b) : DR w wr.drew v z a b := ⟨h.ex, h.bel.drew, h.zs, h.zt, h.zi⟩
end
/-- a drawn tree with an item -/
def DTIPost (w : World) (e : Ending) (w' : World) : Prop := ∃ v t, ∃ x : Itm, e = .returned (.tuple #[.agg #[v], .agg #[.int .i64 x.k, .int .i64 x.r]]) ∧ Lvs w' v t ∧ t.length ≤ 40 ∧ (flatT t).length ≤ 40 ∧ Below w.heap.size w w'
theorem DR.post {w wr : World} {v z : Value} {a b : Int} (h : DR w wr v z a b) : DTIPost w (.returned (.tuple #[.agg #[v], .agg #[.int .i64 a, .int .i64 b]])) wr := by
  obtain ⟨B, t, ho, h1, h2⟩ := h.ex
  exact ⟨v, t, ⟨a, b⟩, rfl, ho.lvs, h1, h2, h.bel⟩
/-- a drawn tree -/
def DTPost (w : World) (e : Ending) (w' : World) : Prop := ∃ v t, e = .returned (.agg #[v]) ∧ Lvs w' v t ∧ t.length ≤ 40 ∧ (flatT t).length ≤ 40 ∧ Below w.heap.size w w'
set_option maxHeartbeats 4000000 in
set_option maxRecDepth 100000 in
theorem drawValidTree_any (v : Value) (w : World) (h : BytesAt w v) :
    Calls Try.prog 13 #[v] w (DTPost w) := by
  have HV := hide h
  clear h
  go_enter Try.func13, Try.ntmps13
  go_wp2_with fail
  refine (newReader_any v _ (bytes_alloc HV.out _)).mono ?_
  rintro e w1 ⟨g, rfl, hg, hr, hb1⟩
  have Z1 := hide (blk_own hb1 (blk_alloc w _))
  have hg : w.heap.size + 1 ≤ g := by simpa using hg
  have hb1 : Below w.heap.size w w1 := (below_box w _).trans (hb1.mono (by simp))
  have R1 := hide hr
  have HB1 := hide hb1
  have hgl := hr.lt
  clear hr hb1
  go_wp2_with fail
  refine (anyTree_any g 0 w1 R1.out (by omega) (by omega)).mono ?_
  rintro e w2 ⟨v, t, q, rfl, ho, hfl, htl, -, -, hgr⟩
  have Z2 := hide (blk_by hgr Z1.out (by omega))
  have HB2 : Hid (Below w.heap.size w w2) := HB1.out.grown hgr HB1.out.size (fun q hq => by cases hq; omega)
  obtain ⟨a, n, c, rfl⟩ := ownR_any ho
  have HF := hide (ho.boxT (u := .slice a n c) Z2.out).lvs
  have z0 := cell_block Z2.out 0
  have zf := froz_block Z2.out 0
  have S5 := hide (set_block Z2.out 0 (.slice a n c))
  have s5 := cell_block S5.out 0
  have HE : Hid (Below w.heap.size w (w2.setCell ⟨w.heap.size, 0, none⟩ (.slice a n c))) := HB2.out.setCell (Nat.le_refl _) _
  clear ho hgr
  go_wp2_with fail
  all_goals go_tidy
  refine ⟨rfl, .agg #[.slice a n c], by simp [results, Try.results13, go_sem, s5], _, t, rfl, HF.out, htl, hfl, HE.out⟩
set_option maxHeartbeats 16000000 in
set_option maxRecDepth 100000 in
theorem drawTreeInsert_any (v : Value) (w : World) (h : BytesAt w v) :
    Calls Try.prog 35 #[v] w (DTIPost w) := by
  have HV := hide h
  clear h
  go_enter Try.func35, Try.ntmps35
  go_wp2_with fail
  refine (newReader_any v _ (bytes_alloc (bytes_alloc HV.out _) _)).mono ?_
  rintro e w1 ⟨g, rfl, hg, hr, hb1⟩
  have Z1 := hide (blk_own hb1 (blk_keep (blk_alloc w _) _))
  have I1 := hide (blk_own hb1 (blk_at (b := w.heap.size + 1) (by simp) _))
  have hg : w.heap.size + 2 ≤ g := by simpa using hg
  have hb1 : Below w.heap.size w w1 := (below_box2 w _ _).trans (hb1.mono (by simp; omega))
  have R1 := hide hr
  have HB1 := hide hb1
  have hgl := hr.lt
  clear hr hb1
  go_wp2_with fail
  refine (anyTree_any g 0 w1 R1.out (by omega) (by omega)).mono ?_
  rintro e w2 ⟨v, t, q, rfl, ho, hfl, htl, hr2, ⟨hq0, hq1⟩, hgr⟩
  have Z2 := hide (blk_by hgr Z1.out (by omega))
  have I2 := hide (blk_by hgr I1.out (by omega))
  have HB2 : Hid (Below w.heap.size w w2) := HB1.out.grown hgr HB1.out.size (fun q hq => by cases hq; omega)
  have R2 := hide hr2
  have hg2 := hr2.lt
  have hs2 := hgr.size
  obtain ⟨a, n, c, rfl⟩ := ownR_any ho
  have O2 := hide ho
  have B2 := hide (blk_alloc w2 (.cells #[.slice a n c] 25))
  clear ho hgr hr2 Z1 I1 R1 HB1
  go_wp2_with fail
  refine (randomItem_any g q _ (R2.out.alloc _) (by omega)).mono ?_
  rintro e w3 ⟨x, rfl, -, hr3, hgr⟩
  have hgb : w.heap.size ≤ g := by omega
  have Z3 := hide (blk_by hgr (blk_keep Z2.out _) (by omega))
  have I3 := hide (blk_by hgr (blk_keep I2.out _) (by omega))
  have B3 := hide (blk_by hgr B2.out (by omega))
  have HB3 : Hid (Below w.heap.size w w3) := (HB2.out.alloc HB2.out.size _).grown hgr (by have := HB2.out.size; simp; omega) (fun q hq => by cases hq; omega)
  have O3 := hide ((O2.out.keep (below_box w2 _)).byRd hgl (R2.out.alloc _) hgr)
  have R3 := hide hr3
  have hg3 := hr3.lt
  have hl3 := lt_block B3.out
  obtain ⟨B5, hB5⟩ : ∃ B, B = w2.heap.size := ⟨_, rfl⟩
  have HI5 := hide (lt_block I2.out)
  rw [← hB5] at B3 hl3 hg2 HI5 ⊢
  have hI5 : w.heap.size + 1 < B5 := HI5.out
  clear HI5 hs2 hB5 hgr hr3 Z2 I2 B2 HB2 R2 O2
  have C3 := hide (blk_alloc w3 (.cells #[.int .i64 x.k, .int .i64 x.r] 38))
  go_wp2_with fail
  refine (pick_any g (q + 1 + 1) 12 _ (R3.out.alloc _) (by omega)).mono ?_
  rintro e w4 ⟨r, rfl, -, hr4, hgr⟩
  have Z4 := hide (blk_by hgr (blk_keep Z3.out _) (by omega))
  have I4 := hide (blk_by hgr (blk_keep I3.out _) (by omega))
  have B4 := hide (blk_by hgr (blk_keep B3.out _) (by omega))
  have C4 := hide (blk_by hgr C3.out (by omega))
  have HB4 : Hid (Below w.heap.size w w4) := (HB3.out.alloc HB3.out.size _).grown hgr (by have := HB3.out.size; simp; omega) (fun q hq => by cases hq; omega)
  have O4 := hide ((O3.out.keep (below_box w3 _)).byRd hgl (R3.out.alloc _) hgr)
  have R4 := hide hr4
  have hg4 := hr4.lt
  have hl4 := lt_block C4.out
  obtain ⟨B6, hB6⟩ : ∃ B, B = w3.heap.size := ⟨_, rfl⟩
  rw [← hB6] at C4 hl4 hl3 hg3 ⊢
  clear hB6 hgr hr4 Z3 I3 B3 HB3 R3 O3 C3
  obtain ⟨xk, xr⟩ := x
  simp only at C4 ⊢
  by_cases hr0 : r = 0
  · subst hr0
    go_wp2_with fail
    refine (one_lit g (q + 1 + 1 + 1) _ 3 _ [-1, 999999, 1000000] _ (R4.out.alloc _) (by omega) (blk_alloc _ _) (by omega) (by decide) (by decide)).mono ?_
    rintro e w5 ⟨xa, rfl, -, hr5, hgr⟩
    have Z5 := hide (blk_by hgr (blk_keep Z4.out _) (by omega))
    have I5 := hide (blk_by hgr (blk_keep I4.out _) (by omega))
    have B5' := hide (blk_by hgr (blk_keep B4.out _) (by omega))
    have C5 := hide (blk_by hgr (blk_keep C4.out _) (by omega))
    have HB5 : Hid (Below w.heap.size w w5) := (HB4.out.alloc HB4.out.size _).grown hgr (by have := HB4.out.size; simp; omega) (fun q hq => by cases hq; omega)
    have O5 := hide ((O4.out.keep (below_box w4 _)).byRd hgl (R4.out.alloc _) hgr)
    have R5 := hide hr5
    have hg5 := hr5.lt
    clear hgr hr5 Z4 I4 B4 C4 HB4 R4 O4
    go_wp2_with fail
    refine (one_lit g (q + 1 + 1 + 1 + 1) _ 3 _ [0, 99, 100] _ (R5.out.alloc _) (by omega) (blk_alloc _ _) (by omega) (by decide) (by decide)).mono ?_
    rintro e w6 ⟨xb, rfl, -, hr6, hgr⟩
    have Z6 := hide (blk_by hgr (blk_keep Z5.out _) (by omega))
    have I6 := hide (blk_by hgr (blk_keep I5.out _) (by omega))
    have B6' := hide (blk_by hgr (blk_keep B5'.out _) (by omega))
    have C6 := hide (blk_by hgr (blk_keep C5.out _) (by omega))
    have HB6 : Hid (Below w.heap.size w w6) := (HB5.out.alloc HB5.out.size _).grown hgr (by have := HB5.out.size; simp; omega) (fun q hq => by cases hq; omega)
    have O6 := hide ((O5.out.keep (below_box w5 _)).byRd hgl (R5.out.alloc _) hgr)
    clear hgr hr6 Z5 I5 B5' C5 HB5 R5 O5
    obtain ⟨t6, ht1, ht2, ho6⟩ := O6.out.int (o := 0) (n := xa) C6.out
    obtain ⟨t7, ht3, ht4, ho7⟩ := ho6.int (o := 1) (n := xb) (set_block C6.out 0 _)
    have hl6 := lt_block C6.out
    have hw7 : B6 < ((w6.setCell ⟨B6, 0, none⟩ (.int .i64 xa)).setCell ⟨B6, 1, none⟩ (.int .i64 xb)).heap.size := by simpa [World.setCell] using hl6
    have HD : Hid (DR w ((w6.setCell ⟨B6, 0, none⟩ (.int .i64 xa)).setCell ⟨B6, 1, none⟩ (.int .i64 xb)) (.slice a n c) (.slice none 0 0) 0 0) := ⟨⟨_, t7, ho7, by omega, by omega⟩, (HB6.out.setCell (by show w.heap.size ≤ B6; omega) _).setCell (by show w.heap.size ≤ B6; omega) _, ⟨_, _, _, rfl⟩, blk_oth (blk_oth Z6.out (by omega)) (by omega), blk_oth (blk_oth I6.out (by omega)) (by omega)⟩
    have B7 := hide (blk_oth (o := 1) (v := .int .i64 xb) (blk_oth (b' := B6) (o := 0) (v := .int .i64 xa) B6'.out (by omega)) (show B5 ≠ B6 by omega))
    have C7 := hide (set_block (set_block C6.out 0 (.int .i64 xa)) 1 (.int .i64 xb))
    have g0 := cell_block C6.out 0
    have g1 := cell_block C6.out 1
    have gf0 := froz_block C6.out 0
    have gf1 := froz_block C6.out 1
    clear ht1 ht2 ht3 ht4 ho6 ho7 O6 HB6
    have c0 := cell_block B7.out 0
    have e0 := cell_block C7.out 0
    have e1 := cell_block C7.out 1
    have z0 := cell_block HD.out.zt 0
    have zf := froz_block HD.out.zt 0
    have i0 := cell_block HD.out.zi 0
    have i1 := cell_block HD.out.zi 1
    have if0 := froz_block HD.out.zi 0
    have if1 := froz_block HD.out.zi 1
    have k1 := set_far (k := w.heap.size) (b := B5) (by omega)
    have k2 := set_far (k := w.heap.size + 1) (b := B5) (by omega)
    have k3 := set_far (k := w.heap.size) (b := B6) (by omega)
    have k4 := set_far (k := w.heap.size + 1) (b := B6) (by omega)
    clear Z6 I6 B6' C6 B7 C7
    go_wp2_with fail
    go_region_held3 (fun w' => w'.cell? ⟨B5, 0, none⟩ = some (.slice a n c) ∧ w'.cell? ⟨B6, 0, none⟩ = some (.int .i64 xa) ∧ w'.cell? ⟨B6, 1, none⟩ = some (.int .i64 xb)) (go_keep) (fail)
    have HF := hide ((((HD.out.st (u := .slice a n c) ⟨_, _, _, rfl⟩).si0 xa).si1 xb).drew)
    have y0 := cell_block HF.out.zt 0
    have y1 := cell_block HF.out.zi 0
    have y2 := cell_block HF.out.zi 1
    go_wp2_with fail
    all_goals go_tidy
    refine ⟨rfl, .tuple #[.agg #[.slice a n c], .agg #[.int .i64 xa, .int .i64 xb]], by simp [results, Try.results35, go_sem, y0, y1, y2], HF.out.post⟩
  · have d0 : (r == 0) = false := beq_false_of_ne hr0
    have HD : Hid (DR w w4 (.slice a n c) (.slice none 0 0) 0 0) := ⟨⟨_, t, O4.out, htl, hfl⟩, HB4.out, ⟨_, _, _, rfl⟩, Z4.out, I4.out⟩
    have c0 := cell_block B4.out 0
    have e0 := cell_block C4.out 0
    have e1 := cell_block C4.out 1
    have z0 := cell_block Z4.out 0
    have zf := froz_block Z4.out 0
    have i0 := cell_block I4.out 0
    have i1 := cell_block I4.out 1
    have if0 := froz_block I4.out 0
    have if1 := froz_block I4.out 1
    have k1 := set_far (k := w.heap.size) (b := B5) (by omega)
    have k2 := set_far (k := w.heap.size + 1) (b := B5) (by omega)
    have k3 := set_far (k := w.heap.size) (b := B6) (by omega)
    have k4 := set_far (k := w.heap.size + 1) (b := B6) (by omega)
    clear hr0
    go_wp2_with fail
    go_region_held3 (fun w' => w'.cell? ⟨B5, 0, none⟩ = some (.slice a n c) ∧ w'.cell? ⟨B6, 0, none⟩ = some (.int .i64 xk) ∧ w'.cell? ⟨B6, 1, none⟩ = some (.int .i64 xr)) (go_keep) (fail)
    have HF := hide ((((HD.out.st (u := .slice a n c) ⟨_, _, _, rfl⟩).si0 xk).si1 xr).drew)
    have y0 := cell_block HF.out.zt 0
    have y1 := cell_block HF.out.zi 0
    have y2 := cell_block HF.out.zi 1
    go_wp2_with fail
    all_goals go_tidy
    refine ⟨rfl, .tuple #[.agg #[.slice a n c], .agg #[.int .i64 xk, .int .i64 xr]], by simp [results, Try.results35, go_sem, y0, y1, y2], HF.out.post⟩
end Go.Proofs.Ytmlphdniiiijpaa
