/-
  The generators of trees with an item to be deleted, with a range, and of lists to be loaded.
-/
import Derived.Test.YtmlphdniiiijpaaTreeG4
set_option linter.all false
namespace Go.Proofs.Ytmlphdniiiijpaa
open Go.RowKit
theorem TIOf.len {t : List (List Itm)} {r : List Itm} (h : TIOf t r) : r.length ≤ (flatT t).length := by
  by_cases c : VT t
  · rw [h.1 c]; exact Nat.le_refl _
  · rw [h.2 c]; simp
set_option maxHeartbeats 16000000 in
set_option maxRecDepth 100000 in
theorem drawTreeDelete_any (v : Value) (w : World) (h : BytesAt w v) :
    Calls Try.prog 25 #[v] w (DTIPost w) := by
  have HV := hide h
  clear h
  go_enter Try.func25, Try.ntmps25
  go_wp2_with fail
  refine (newReader_any v _ (bytes_alloc (bytes_alloc HV.out _) _)).mono ?_
  rintro e w1 ⟨g, rfl, hg, hr, hb1⟩
  have Z1 := hide (blk_own hb1 (blk_keep (blk_alloc w _) _))
  have I1 := hide (blk_own hb1 (blk_at (b := w.heap.size + 1) (by simp) _))
  have hg : w.heap.size + 2 ≤ g := by simpa using hg
  have hb1 : Below w.heap.size w w1 := (below_box2 w _ _).trans (hb1.mono (by simp; omega))
  have R1 := hide hr
  have HB1 := hide hb1
  have hgl := hr.lt
  clear hr hb1
  go_wp2_with fail
  refine (anyTree_any g 0 w1 R1.out (by omega) (by omega)).mono ?_
  rintro e w2 ⟨v, t, q, rfl, ho, hfl, htl, hr2, ⟨hq0, hq1⟩, hgr⟩
  have Z2 := hide (blk_by hgr Z1.out (by omega))
  have I2 := hide (blk_by hgr I1.out (by omega))
  have HB2 : Hid (Below w.heap.size w w2) := HB1.out.grown hgr HB1.out.size (fun q hq => by cases hq; omega)
  have R2 := hide hr2
  have hg2 := hr2.lt
  have hs2 := hgr.size
  obtain ⟨a, n, c, rfl⟩ := ownR_any ho
  have O2 := hide ho
  have B2 := hide (blk_alloc w2 (.cells #[.slice a n c] 25))
  have c2 := cell_block B2.out 0
  clear ho hgr hr2 Z1 I1 R1 HB1
  go_wp2_with fail
  refine (streeItems_any _ t _ (O2.out.keep (below_box w2 _)).lvs (by omega)).mono ?_
  rintro e w3 ⟨lv, r, rfl, hti, hoi, hb⟩
  have hrl := Nat.le_trans hti.len hfl
  have Z3 := hide (blk_own hb (blk_keep Z2.out _))
  have I3 := hide (blk_own hb (blk_keep I2.out _))
  have B3 := hide (blk_own hb B2.out)
  have HB3 : Hid (Below w.heap.size w w3) := (HB2.out.alloc HB2.out.size _).trans (hb.mono (by have := HB2.out.size; simp; omega))
  have O3 := hide ((O2.out.keep (below_box w2 _)).keep hb)
  have R3 := hide ((R2.out.alloc _).keep hb (by simp; omega))
  have L3 := hide hoi
  have hg3 := R3.out.lt
  have hl3 := lt_block B3.out
  have HI5 := hide (lt_block I2.out)
  obtain ⟨la, lc, rfl, -⟩ := own_slc hoi
  obtain ⟨B5, hB5⟩ : ∃ B, B = w2.heap.size := ⟨_, rfl⟩
  rw [← hB5] at B3 hl3 hg2 HI5 ⊢
  have hI5 : w.heap.size + 1 < B5 := HI5.out
  clear HI5 hs2 hb hoi hti Z2 I2 B2 HB2 R2 O2 c2
  have hgw : w.heap.size ≤ g := by omega
  have HLB : Hid (∀ k, (Value.slice la r.length lc).ownBlock = some k → B5 < k) := fun k hk => by have := (World.ownsRow.lt L3.out k hk).1; simp at this; omega
  clear hB5
  by_cases hr0 : r = []
  · subst hr0
    have d0 : decide ((0 : Int) < (([] : List Itm).length : Int)) = false := by decide
    simp only [List.length_nil] at d0 ⊢
    have c0 := cell_block B3.out 0
    have z0 := cell_block Z3.out 0
    have zf := froz_block Z3.out 0
    have i0 := cell_block I3.out 0
    have i1 := cell_block I3.out 1
    have if0 := froz_block I3.out 0
    have if1 := froz_block I3.out 1
    have HRD : Hid (Rd w3.drew g (q)) := R3.out
    have BD : Hid (w3.drew.heap[B5]? = some (.cells #[.slice a n c] 25 (0, 0))) := B3.out
    have ZD : Hid (w3.drew.heap[w.heap.size]? = some (.cells #[.slice none 0 0] 25 (0, 0))) := Z3.out
    have ID : Hid (w3.drew.heap[w.heap.size + 1]? = some (.cells #[.int .i64 0, .int .i64 0] 38 (0, 0))) := I3.out
    have HBD : Hid (Below w.heap.size w w3.drew) := HB3.out.drew
    have OD : Hid (OwnR w1.heap.size w3.drew (.slice a n c) t) := O3.out.keep ((Below.refl _ _).drew)
    go_wp2_with fail
    go_region_law (go_simp; go_at_call 49; (with_reducible refine (randomItem_any g (q) _ HRD.out (by omega)).mono ?_); rintro e w9 ⟨x, rfl, -, hr9, hgr⟩; have Z9 := hide (blk_by hgr ZD.out (by omega)); have I9 := hide (blk_by hgr ID.out (by omega)); have B9 := hide (blk_by hgr BD.out (by omega)); have HB9 := hide (HBD.out.grown hgr HBD.out.size (fun q hq => by cases hq; omega)); have O9 := hide (OD.out.byRd hgl HRD.out hgr); have HD9 : Hid (DR w w9 (.slice a n c) (.slice none 0 0) 0 0) := (DR.mk ⟨_, t, O9.out, htl, hfl⟩ HB9.out ⟨_, _, _, rfl⟩ Z9.out I9.out); have c9 := cell_block B9.out 0; have z9 := cell_block Z9.out 0; have zf9 := froz_block Z9.out 0; have i09 := cell_block I9.out 0; have i19 := cell_block I9.out 1; have if09 := froz_block I9.out 0; have if19 := froz_block I9.out 1; have hw9 := lt_block B9.out; clear hr9 hgr)
    all_goals
      have HF := hide (((HD9.out.st (u := .slice a n c) ⟨_, _, _, rfl⟩).si0 x.k).si1 x.r)
      have y0 := cell_block HF.out.zt 0
      have y1 := cell_block HF.out.zi 0
      have y2 := cell_block HF.out.zi 1
      go_wp2_with fail
      all_goals go_tidy
      refine ⟨rfl, .tuple #[.agg #[.slice a n c], .agg #[.int .i64 x.k, .int .i64 x.r]], by simp [results, Try.results25, go_sem, y0, y1, y2], ?_⟩
      first
      | exact HF.out.post
      | exact DR.post (a := x.k) (b := x.r) HF.out
  · have hpos := List.length_pos_iff.2 hr0
    have hpos' : (0 : Int) < (r.length : Int) := by omega
    have d0 : decide ((0 : Int) < (r.length : Int)) = true := decide_eq_true hpos'
    have HNE := hide hr0
    clear hr0
    go_wp2_with fail
    refine (pick_any g q 6 _ R3.out (by omega)).mono ?_
    rintro e w4 ⟨m, rfl, hm, hr4, hgr⟩
    have Z4 := hide (blk_by hgr Z3.out (by omega))
    have I4 := hide (blk_by hgr I3.out (by omega))
    have B4 := hide (blk_by hgr B3.out (by omega))
    have HB4 : Hid (Below w.heap.size w w4) := HB3.out.grown hgr HB3.out.size (fun q hq => by cases hq; omega)
    have O4 := hide (O3.out.byRd hgl R3.out hgr)
    have L4 := hide (L3.out.itms.kept hgr (fun hf a n c e q => itms_rd R3.out L3.out.itms hf e (by injection q with q; exact q.symm)))
    have R4 := hide hr4
    have hg4 := hr4.lt
    have hl4 := lt_block B4.out
    clear hgr hr4 Z3 I3 B3 HB3 R3 O3 L3
    by_cases hm0 : 0 < m
    · have dm : decide (0 < m) = true := decide_eq_true hm0
      have hit3 := L4.out
      obtain ⟨_, _, he, hlc1, hlc2, hd⟩ := hit3
      injection he with he1 _ he2
      subst he1; subst he2
      obtain ⟨lb, lo, rfl, -, -⟩ := hd.resolve_left HNE.out
      have hlb : B5 < lb := HLB.out lb rfl
      have k5 := set_far (k := w.heap.size) (b := lb) (by omega)
      have k6 := set_far (k := w.heap.size + 1) (b := lb) (by omega)
      have HIX : Hid (∀ (w5 : World) (i : Nat), w4.drew.grownBy w5 (some g) → i < r.length → ∃ y : Itm, ItmAt w5 lb (lo + i * 2) y) := fun w5 i hg5 hi => by
        have hk := (L4.out.keep ((Below.refl w4.heap.size w4).drew)).kept hg5 (fun hf a n c e q => itms_rd R4.out L4.out hf e (by injection q with q; exact q.symm))
        obtain ⟨_, _, he, -, -, hd⟩ := hk
        injection he with he1 _ _
        subst he1
        obtain ⟨lb', lo', he, -, hlc⟩ := hd.resolve_left HNE.out
        injection he with he
        injection he with e1 e2 _
        subst e1; subst e2
        exact ⟨r[i], hlc i hi⟩
      clear hd hm
      have HRD : Hid (Rd w4.drew g (q + 1)) := R4.out
      have BD : Hid (w4.drew.heap[B5]? = some (.cells #[.slice a n c] 25 (0, 0))) := B4.out
      have ZD : Hid (w4.drew.heap[w.heap.size]? = some (.cells #[.slice none 0 0] 25 (0, 0))) := Z4.out
      have ID : Hid (w4.drew.heap[w.heap.size + 1]? = some (.cells #[.int .i64 0, .int .i64 0] 38 (0, 0))) := I4.out
      have HBD : Hid (Below w.heap.size w w4.drew) := HB4.out.drew
      have OD : Hid (OwnR w1.heap.size w4.drew (.slice a n c) t) := O4.out.keep ((Below.refl _ _).drew)
      have c0 := cell_block B4.out 0
      have z0 := cell_block Z4.out 0
      have zf := froz_block Z4.out 0
      have i0 := cell_block I4.out 0
      have i1 := cell_block I4.out 1
      have if0 := froz_block I4.out 0
      have if1 := froz_block I4.out 1
      go_wp2_with fail
      go_region_law (go_simp; go_at_call 44; (with_reducible refine (pick_any g (q + 1) (r.length : Int) _ HRD.out (by omega)).mono ?_); rintro e w9 ⟨i, rfl, hi, hr9, hgr⟩; obtain ⟨i, rfl⟩ : ∃ i' : Nat, i = (i' : Int) := (⟨i.toNat, by have := hi.1; omega⟩); have hiF : i < r.length := (by have := hi.2 (by omega); omega); have hiF' : (i : Int) < (r.length : Int) := (by omega); obtain ⟨y, hy⟩ := HIX.out w9 i hgr hiF; obtain ⟨e0, e1⟩ := hy; have Z9 := hide (blk_by hgr ZD.out (by omega)); have I9 := hide (blk_by hgr ID.out (by omega)); have B9 := hide (blk_by hgr BD.out (by omega)); have HB9 := hide (HBD.out.grown hgr HBD.out.size (fun q hq => by cases hq; omega)); have O9 := hide (OD.out.byRd hgl HRD.out hgr); have HD9 : Hid (DR w w9 (.slice a n c) (.slice none 0 0) 0 0) := (DR.mk ⟨_, t, O9.out, htl, hfl⟩ HB9.out ⟨_, _, _, rfl⟩ Z9.out I9.out); have c9 := cell_block B9.out 0; have z9 := cell_block Z9.out 0; have zf9 := froz_block Z9.out 0; have i09 := cell_block I9.out 0; have i19 := cell_block I9.out 1; have if09 := froz_block I9.out 0; have if19 := froz_block I9.out 1; have hw9 := lt_block B9.out; clear hi hr9 hgr)
      all_goals
        have HF := hide (((HD9.out.st (u := .slice a n c) ⟨_, _, _, rfl⟩).si0 y.k).si1 y.r)
        have y0 := cell_block HF.out.zt 0
        have y1 := cell_block HF.out.zi 0
        have y2 := cell_block HF.out.zi 1
        go_wp2_with fail
        all_goals go_tidy
        refine ⟨rfl, .tuple #[.agg #[.slice a n c], .agg #[.int .i64 y.k, .int .i64 y.r]], by simp [results, Try.results25, go_sem, y0, y1, y2], ?_⟩
        first
        | exact HF.out.post
        | exact DR.post (a := y.k) (b := y.r) HF.out
    · have dm : decide (0 < m) = false := decide_eq_false hm0
      clear hm0 hm
      have c0 := cell_block B4.out 0
      have z0 := cell_block Z4.out 0
      have zf := froz_block Z4.out 0
      have i0 := cell_block I4.out 0
      have i1 := cell_block I4.out 1
      have if0 := froz_block I4.out 0
      have if1 := froz_block I4.out 1
      have HRD : Hid (Rd w4.drew g (q + 1)) := R4.out
      have BD : Hid (w4.drew.heap[B5]? = some (.cells #[.slice a n c] 25 (0, 0))) := B4.out
      have ZD : Hid (w4.drew.heap[w.heap.size]? = some (.cells #[.slice none 0 0] 25 (0, 0))) := Z4.out
      have ID : Hid (w4.drew.heap[w.heap.size + 1]? = some (.cells #[.int .i64 0, .int .i64 0] 38 (0, 0))) := I4.out
      have HBD : Hid (Below w.heap.size w w4.drew) := HB4.out.drew
      have OD : Hid (OwnR w1.heap.size w4.drew (.slice a n c) t) := O4.out.keep ((Below.refl _ _).drew)
      go_wp2_with fail
      go_region_law (go_simp; go_at_call 49; (with_reducible refine (randomItem_any g (q + 1) _ HRD.out (by omega)).mono ?_); rintro e w9 ⟨x, rfl, -, hr9, hgr⟩; have Z9 := hide (blk_by hgr ZD.out (by omega)); have I9 := hide (blk_by hgr ID.out (by omega)); have B9 := hide (blk_by hgr BD.out (by omega)); have HB9 := hide (HBD.out.grown hgr HBD.out.size (fun q hq => by cases hq; omega)); have O9 := hide (OD.out.byRd hgl HRD.out hgr); have HD9 : Hid (DR w w9 (.slice a n c) (.slice none 0 0) 0 0) := (DR.mk ⟨_, t, O9.out, htl, hfl⟩ HB9.out ⟨_, _, _, rfl⟩ Z9.out I9.out); have c9 := cell_block B9.out 0; have z9 := cell_block Z9.out 0; have zf9 := froz_block Z9.out 0; have i09 := cell_block I9.out 0; have i19 := cell_block I9.out 1; have if09 := froz_block I9.out 0; have if19 := froz_block I9.out 1; have hw9 := lt_block B9.out; clear hr9 hgr)
      all_goals
        have HF := hide (((HD9.out.st (u := .slice a n c) ⟨_, _, _, rfl⟩).si0 x.k).si1 x.r)
        have y0 := cell_block HF.out.zt 0
        have y1 := cell_block HF.out.zi 0
        have y2 := cell_block HF.out.zi 1
        go_wp2_with fail
        all_goals go_tidy
        refine ⟨rfl, .tuple #[.agg #[.slice a n c], .agg #[.int .i64 x.k, .int .i64 x.r]], by simp [results, Try.results25, go_sem, y0, y1, y2], ?_⟩
        first
        | exact HF.out.post
        | exact DR.post (a := x.k) (b := x.r) HF.out
/-- a drawn tree v; the result's block holds z -/
structure DS (w wr : World) (v z : Value) : Prop where
  ex : ∃ B t, OwnR B wr v t ∧ t.length ≤ 40 ∧ (flatT t).length ≤ 40
  bel : Below w.heap.size w wr
  zs : ∃ x n c, z = .slice x n c
  zt : wr.heap[w.heap.size]? = some (.cells #[z] 25 (0, 0))
theorem DS.st {w wr : World} {v z u : Value} (h : DS w wr v z) (hu : ∃ x n c, u = .slice x n c) : DS w (wr.setCell ⟨w.heap.size, 0, none⟩ u) v u := by
  obtain ⟨B, t, ho, h1, h2⟩ := h.ex
  obtain ⟨x, n, c, rfl⟩ := h.zs
  exact ⟨⟨B, t, ho.boxT h.zt, h1, h2⟩, h.bel.setCell (Nat.le_refl _) _, hu, set_block h.zt 0 u⟩
/-- a drawn tree with a range -/
def DTRPost (w : World) (e : Ending) (w' : World) : Prop := ∃ v t, ∃ lo hi : Int, e = .returned (.tuple #[.agg #[v], .int .i64 lo, .int .i64 hi]) ∧ (-1 ≤ lo ∧ lo ≤ 100 ∧ -10 ≤ hi ∧ hi ≤ 200) ∧ Lvs w' v t ∧ t.length ≤ 40 ∧ (flatT t).length ≤ 40 ∧ Below w.heap.size w w'
set_option maxHeartbeats 16000000 in
set_option maxRecDepth 100000 in
theorem drawTreeRange_any (v : Value) (w : World) (h : BytesAt w v) :
    Calls Try.prog 18 #[v] w (DTRPost w) := by
  have HV := hide h
  clear h
  go_enter Try.func18, Try.ntmps18
  go_wp2_with fail
  refine (newReader_any v _ (bytes_alloc HV.out _)).mono ?_
  rintro e w1 ⟨g, rfl, hg, hr, hb1⟩
  have Z1 := hide (blk_own hb1 (blk_alloc w _))
  have hg : w.heap.size + 1 ≤ g := by simpa using hg
  have hb1 : Below w.heap.size w w1 := (below_box w _).trans (hb1.mono (by simp))
  have R1 := hide hr
  have HB1 := hide hb1
  have hgl := hr.lt
  clear hr hb1
  go_wp2_with fail
  refine (anyTree_any g 0 w1 R1.out (by omega) (by omega)).mono ?_
  rintro e w2 ⟨v, t, q, rfl, ho, hfl, htl, hr2, ⟨hq0, hq1⟩, hgr⟩
  have Z2 := hide (blk_by hgr Z1.out (by omega))
  have HB2 : Hid (Below w.heap.size w w2) := HB1.out.grown hgr HB1.out.size (fun q hq => by cases hq; omega)
  have R2 := hide hr2
  have hg2 := hr2.lt
  have hs2 := hgr.size
  obtain ⟨a, n, c, rfl⟩ := ownR_any ho
  have O2 := hide ho
  have B2 := hide (blk_alloc w2 (.cells #[.slice a n c] 25))
  clear ho hgr hr2 Z1 R1 HB1
  go_wp2_with fail
  refine (pick_any g q 12 _ (R2.out.alloc _) (by omega)).mono ?_
  rintro e w3 ⟨m, rfl, hm, hr3, hgr⟩
  have hm0 := hm.1
  have hm1 := hm.2 (by omega)
  have Z3 := hide (blk_by hgr (blk_keep Z2.out _) (by omega))
  have B3 := hide (blk_by hgr B2.out (by omega))
  have HB3 : Hid (Below w.heap.size w w3) := (HB2.out.alloc HB2.out.size _).grown hgr (by have := HB2.out.size; simp; omega) (fun q hq => by cases hq; omega)
  have O3 := hide ((O2.out.keep (below_box w2 _)).byRd hgl (R2.out.alloc _) hgr)
  have R3 := hide hr3
  have hg3 := hr3.lt
  have hl3 := lt_block B3.out
  obtain ⟨B5, hB5⟩ : ∃ B, B = w2.heap.size := ⟨_, rfl⟩
  have HI5 := hide (lt_block Z2.out)
  rw [← hB5] at B3 hl3 hg2 HI5 ⊢
  have hI5 : w.heap.size < B5 := HI5.out
  clear HI5 hs2 hB5 hgr hr3 hm Z2 B2 HB2 R2 O2
  have hgw : w.heap.size ≤ g := by omega
  have HRD : Hid (∀ W, Below w3.heap.size w3 W → Rd W g (q + 1)) := fun W hW => R3.out.keep hW hg3
  have HBF : Hid (∀ W W' : World, Below w3.heap.size w3 W → W.grownBy W' (some g) → DS w W' (.slice a n c) (.slice none 0 0) ∧ W'.heap[B5]? = some (.cells #[.slice a n c] 25 (0, 0)) ∧ B5 < W'.heap.size) := fun W W' hW hg =>
    have hb5 := blk_by hg (blk_own hW B3.out) (by omega)
    ⟨⟨⟨_, t, (O3.out.keep hW).byRd hgl (R3.out.keep hW hg3) hg, htl, hfl⟩, (HB3.out.trans (hW.mono HB3.out.size)).grown hg (Nat.le_trans HB3.out.size hW.size) (fun q hq => by cases hq; omega), ⟨_, _, _, rfl⟩, blk_by hg (blk_own hW Z3.out) (by omega)⟩, hb5, lt_block hb5⟩
  have c0 := cell_block B3.out 0
  have z0 := cell_block Z3.out 0
  have zf := froz_block Z3.out 0
  have A0 : ∀ o, ((w3.alloc o).drew).cell? ⟨B5, 0, none⟩ = some (.slice a n c) := fun o => (cell_alloc (p := ⟨B5, 0, none⟩) hl3 o).trans c0
  have A1 : ∀ o, ((w3.drew.alloc o)).cell? ⟨B5, 0, none⟩ = some (.slice a n c) := fun o => (cell_alloc (w := w3.drew) (p := ⟨B5, 0, none⟩) hl3 o).trans c0
  clear Z3 HB3 O3 B3
  go_wp2_with fail
  have HRA : Hid (∀ o, Rd (w3.alloc o).drew g (q + 1)) := fun o => R3.out.alloc o
  have HBA : Hid (∀ o, (w3.alloc o).drew.heap[w3.heap.size]? = some o) := fun o => blk_drew0 (blk_alloc w3 o)
  have HGA : Hid (∀ o, Below w3.heap.size w3 (w3.alloc o).drew) := fun o => (below_box w3 o).drew
  go_region_law (go_simp; go_at_call 45; refine (one_lit g (q + 1) _ 5 _ [0, 2, 5, -1, 12] _ (HRA.out _) (by omega) (HBA.out _) (by omega) (by decide) (by decide)).mono ?_; rintro e w9 ⟨x, rfl, hx, hr9, hgr⟩; obtain ⟨hds, hb9, hl9⟩ := HBF.out _ _ (HGA.out _) hgr; have HD9 := hide hds; have c9 := cell_block hb9 0; have z9 := cell_block hds.zt 0; have zf9 := froz_block hds.zt 0; have HX : Hid (-1 ≤ x ∧ x ≤ 12) := (by simp at hx; unfold Hid; omega); have hx0 : -1 ≤ x := HX.out.1; have hx1 : x ≤ 12 := HX.out.2; clear hx hr9 hgr hds hb9)
  all_goals
    have HF := hide (HD9.out.st (u := .slice a n c) ⟨_, _, _, rfl⟩)
    have y0 := cell_block HF.out.zt 0
    go_wp2_with fail
    all_goals go_tidy
    refine ⟨rfl, .tuple #[.agg #[.slice a n c], .int .i64 (m - 1), .int .i64 (m - 1 + x)], by simp [results, Try.results18, go_sem, y0] <;> exact IntWalk.i64_in _ (by omega), ?_⟩
    obtain ⟨B, t', ho', h1, h2⟩ := HF.out.ex
    exact ⟨_, t', m - 1, m - 1 + x, rfl, ⟨by omega, by omega, by omega, by omega⟩, ho'.lvs, h1, h2, HF.out.bel⟩
/-- a drawn list of items -/
def DLPost (w : World) (e : Ending) (w' : World) : Prop := ∃ v l, e = .returned v ∧ OwnI w.heap.size w' v l ∧ l.length ≤ 31 ∧ Below w.heap.size w w'
theorem dl_post {w wr : World} {B : Nat} {v : Value} {l : List Itm} (h : OwnI B wr v l) (hB : w.heap.size ≤ B) (hl : l.length ≤ 31) (hb : Below w.heap.size w wr) : DLPost w (.returned v) wr := ⟨v, l, rfl, own_mono h hB, hl, hb⟩
/-- a list and the reader ahead of it -/
structure DL (w wr : World) (g B : Nat) (v : Value) (l : List Itm) (q : Int) : Prop where
  rd : Rd wr g q
  ow : OwnI B wr v l
  bel : Below w.heap.size w wr
  hg : w.heap.size ≤ g
  hB : g < B
  hs : B ≤ wr.heap.size
section
variable {w wr wj : World} {g B : Nat} {v v' : Value} {l l' : List Itm} {q q' : Int}
theorem DL.by (h : DL w wr g B v l q) (hg : wr.grownBy wj (some g)) (hr : Rd wj g q') : DL w wj g B v l q' :=
  ⟨hr, own_by h.ow hg (fun e => by have := (World.ownsRow.lt h.ow _ e).1; have := h.hB; omega), h.bel.grown hg h.bel.size (fun q hq => by cases hq; exact h.hg), h.hg, h.hB, Nat.le_trans h.hs hg.size⟩
theorem DL.keep (h : DL w wr g B v l q) (hb : Below wr.heap.size wr wj) : DL w wj g B v l q :=
  ⟨h.rd.keep hb h.rd.lt, h.ow.keep hb, h.bel.trans (hb.mono h.bel.size), h.hg, h.hB, Nat.le_trans h.hs hb.size⟩
theorem DL.app (h : DL w wr g B v l q) (hg : wr.grownBy wj v.ownBlock) (ho : OwnI B wj v' l') : DL w wj g B v' l' q := by
  have hb : Below B wr wj := (Below.refl B wr).grown hg h.hs (fun k hk => (World.ownsRow.lt h.ow k hk).1)
  have h1 := h.hg
  have h2 := h.hB
  exact ⟨h.rd.keep hb h.hB, ho, h.bel.trans (hb.mono (by omega)), h.hg, h.hB, Nat.le_trans h.hs hg.size⟩
end
set_option maxHeartbeats 16000000 in
set_option maxRecDepth 100000 in
theorem drawTreeLoad_any (v : Value) (w : World) (h : BytesAt w v) :
    Calls Try.prog 22 #[v] w (DLPost w) := by
  have HV := hide h
  clear h
  go_enter Try.func22, Try.ntmps22
  go_wp2_with fail
  refine (newReader_any v w HV.out).mono ?_
  rintro e w1 ⟨g, rfl, hg, hr, hb1⟩
  have R1 := hide hr
  have HB1 := hide hb1
  have hgl := hr.lt
  clear hr hb1
  go_wp2_with fail
  refine (randomTree_any g 0 w1 R1.out (by omega) (by omega)).mono ?_
  rintro e w2 ⟨v, t, q, rfl, hvt, ho, hr2, ⟨hq0, hq1⟩, hgr⟩
  have hn30 := hvt.n
  have HB2 : Hid (Below w.heap.size w w2) := HB1.out.grown hgr HB1.out.size (fun q hq => by cases hq; exact hg)
  have R2 := hide hr2
  have O2 := hide ho.lvs
  obtain ⟨a, n, c, rfl⟩ := ownR_any ho
  have hs12 := hgr.size
  clear ho hvt hgr hr2 R1
  go_wp2_with fail
  refine (sflat_any _ t w2 O2.out (by omega)).mono ?_
  rintro e w3 ⟨lv, rfl, hoi, hb⟩
  have HD3 : Hid (DL w w3 g w1.heap.size lv (flatT t) q) := ⟨R2.out.keep hb R2.out.lt, own_mono hoi hs12, HB2.out.trans (hb.mono HB2.out.size), hg, hgl, Nat.le_trans hs12 hb.size⟩
  obtain ⟨la, lc, rfl, -⟩ := own_slc hoi
  obtain ⟨l, hl⟩ : ∃ l, flatT t = l := ⟨_, rfl⟩
  rw [hl] at hn30 HD3 ⊢
  have hw1 := HB1.out.size
  clear hoi hb hl HB2 R2 O2 hs12 HB1
  go_wp2_with fail
  refine (pick_any g q 12 _ HD3.out.rd (by omega)).mono ?_
  rintro e w4 ⟨m, rfl, -, hr4, hgr⟩
  have HD4 := hide (HD3.out.by hgr hr4)
  clear hgr hr4 HD3
  by_cases hm0 : m = 0
  · subst hm0
    go_wp2_with fail
    refine (randomItem_any g (q + 1) _ HD4.out.rd (by omega)).mono ?_
    rintro e w5 ⟨x, rfl, -, hr5, hgr⟩
    have HD5 := hide (HD4.out.by hgr hr5)
    have hs5 := HD5.out.hs
    clear hgr hr5 HD4
    go_wp2_with (at_builtin; refine wpList_appI rfl (.tmp 14) (.tmp 17) rfl w1.heap.size _ l rfl (World.ownsRow.alloc HD5.out.ow _) (by omega) _ [x] rfl (one_itms (blk_alloc w5 _)) nilOk_some (by simp) (by simp; omega) ?next)
    case next =>
      intro v8 w8 ho hg8
      have HD8 := hide ((HD5.out.keep (below_box w5 _)).app hg8 ho)
      obtain ⟨ra, rn, rc, rfl⟩ := ownI_any ho
      clear ho hg8
      go_wp2_with fail
      go_ret
      exact dl_post HD8.out.ow hw1 (by simp; omega) HD8.out.bel
  · have dm0 : (m == 0) = false := beq_false_of_ne hm0
    by_cases hm1 : m = 1
    · subst hm1
      clear hm0 dm0
      go_wp2_with fail
      go_loopg [4] (31 - l.length) (fun gk s4 wr => ∃ l' q', DL w wr g w1.heap.size s4 l' q' ∧ l'.length + gk = 31 ∧ 0 ≤ q' ∧ q' + (gk : Int) ≤ 200 + 31)
      case atStart => exact ⟨l, _, HD4.out, by omega, by omega, by omega⟩
      case round =>
        clear HD4
        obtain ⟨l', q', hd, hl', hq'0, hq'1⟩ := hrel
        have HD := hide hd
        obtain ⟨oa, oc, rfl, -⟩ := own_slc hd.ow
        clear hd
        go_wp2_with fail
        refine (pick_any g q' 2 _ HD.out.rd (by omega)).mono ?_
        rintro e w5 ⟨m, rfl, hm, hr5, hgr⟩
        have hm0 := hm.1
        have hm1 := hm.2 (by omega)
        have HD5 := hide (HD.out.by hgr hr5)
        have hs5 := HD5.out.hs
        clear hm hgr hr5 HD
        by_cases hlt : (l'.length : Int) < 30 + m
        · have d1 : decide ((l'.length : Int) < 30 + m) = true := decide_eq_true hlt
          go_wp2_with (at_builtin; refine wpList_appI rfl (.tmp 27) (.tmp 32) rfl w1.heap.size _ l' rfl (World.ownsRow.alloc HD5.out.ow _) (by omega) _ [⟨100 + (l'.length : Int), 0⟩] rfl (one_itms (blk_alloc w5 _)) nilOk_some (by simp) (by simp; omega) ?next)
          case next =>
            intro v8 w8 ho hg8
            have HD8 := hide ((HD5.out.keep (below_box w5 _)).app hg8 ho)
            clear ho hg8
            go_wp2_with fail
            go_roundg (gk - 1)
            case measure => omega
            case rel => exact ⟨_, _, HD8.out, by simp; omega, by omega, by omega⟩
        · have d1 : decide ((l'.length : Int) < 30 + m) = false := decide_eq_false hlt
          go_wp2_with fail
          go_ret
          exact dl_post HD5.out.ow hw1 (by omega) HD5.out.bel
    · have dm1 : (m == 1) = false := beq_false_of_ne hm1
      clear hm0 hm1
      go_wp2_with fail
      go_ret
      exact dl_post HD4.out.ow hw1 (by omega) HD4.out.bel
end Go.Proofs.Ytmlphdniiiijpaa
