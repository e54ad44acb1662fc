/-
  anyTree of the generator.
-/
import Derived.Test.YtmlphdniiiijpaaTreeG2
import Derived.Test.YtmlphdniiiijpaaTreeR
set_option linter.all false
namespace Go.Proofs.Ytmlphdniiiijpaa
open Go.RowKit
theorem OwnR.news {B : Nat} {w : World} {v : Value} {fs : List (List Itm)} (h : OwnR B w v fs) : ∃ ys, News w v ys ∧ ys.length = fs.length ∧ ∀ i (h : i < fs.length), ∃ lv, ys[i]? = some lv ∧ Itms w lv fs[i] ∧ NilOk lv := by
  obtain ⟨xs, ho, hx⟩ := h
  refine ⟨xs, ?_, hx.1, fun i hi => by obtain ⟨lv, e, h1, h2, -⟩ := hx.2 i hi; exact ⟨lv, e, h1, h2⟩⟩
  rcases ho.2 with ⟨rfl, h0⟩ | ⟨gr, cap, cur, rfl, hb, hg, h1, h2, h3⟩
  · exact .inl ⟨rfl, List.length_eq_zero_iff.1 (by rw [hx.1]; exact h0)⟩
  · refine .inr ⟨⟨gr, 0, none⟩, cap, by rw [hx.1], fun j u hu => ?_⟩
    have hj := (List.getElem?_eq_some_iff.1 hu).1
    rw [hx.1] at hj
    rw [Addr.add_lit, Nat.zero_add, World.ownsRow.cellAt ho _ (by omega)]
    exact hu
/-- append of leaves that can be read: what it changes -/
theorem wpList_appR2 {w : World} {ops : Array Oper} {rest : List Oper} {o : Oper} {a : Act} {Q : Exit → Act → World → Prop} (hgd : o.guard = none) (s x : Operand)
    (ho : o.op = .call { callee := .builtin .append, args := #[s, x], argTypes := #[23, 23] })
    (B : Nat) (v0 : Value) (fs : List (List Itm)) (hs : a.eval s = v0) (hown : OwnR B w v0 fs) (hB : B ≤ w.heap.size) (h0 : fs.length ≤ 1048576)
    (v : Value) (ys : List Value) (gs : List (List Itm)) (hx : a.eval x = v) (hv : News w v ys) (hnew : LfR w v0 ys gs) (hn : gs.length ≤ 1048576)
    (hK : ∀ v' w', OwnR B w' v' (fs ++ gs) → Below B w w' → w.grownBy w' v0.ownBlock → wpList Try.prog ops Q rest (a.put o.dst v') w') : wpList Try.prog ops Q (o :: rest) a w := by
  obtain ⟨i0, hi, hz0, hz1, hz2⟩ := info_parts infoLf
  obtain ⟨xs, hr, hlv⟩ := hown
  have hlt : ∀ k, v0.ownBlock = some k → B ≤ k := fun k hk => (World.ownsRow.lt hr k hk).1
  have hyl := hnew.1
  rcases hv with ⟨rfl, rfl⟩ | ⟨ad, cap, rfl, hc⟩
  · have hgs : gs = [] := List.length_eq_zero_iff.1 (by rw [← hyl]; rfl)
    subst hgs
    have hrun := run_append_owned_none (P := Try.prog) w B 23 o.type 28 i0 1 Try.underlying23 hi v0 fs.length xs hr
    refine Lib.wpList_append_run w hgd s x _ _ ho _ _ hs hx _ _ hrun ?_
    exact hK v0 w (by rw [List.append_nil]; exact ⟨xs, hr, hlv⟩) (Below.refl _ _) (World.grownBy.refl _ _)
  · have hone : ∀ u ∈ ys, u.oneCell' = true := by
      intro u hu
      obtain ⟨i, hi, rfl⟩ := List.getElem_of_mem hu
      obtain ⟨lv, e, h1, -⟩ := hnew.2 i (by omega)
      rw [List.getElem?_eq_getElem hi] at e
      injection e with e
      obtain ⟨a', c', e'⟩ := itms_shape h1
      rw [e, e']; rfl
    obtain ⟨v', w', hrun, h2, h3, -, h5⟩ := run_append_own_at (P := Try.prog) w B 23 o.type 28 i0 _ 1 24 Try.underlying23 hi hz0 hz1 hz2 rfl (by decide) v0 fs.length xs hr ad ys.length cap ys (by omega) hc hone (by unfold maxLen; omega) (by omega) (by omega)
    refine Lib.wpList_append_run w hgd s x _ _ ho _ _ hs hx _ _ hrun ?_
    refine hK v' w' ⟨xs ++ ys, by rw [List.length_append, ← hyl]; exact h2, by rw [List.length_append, List.length_append, hlv.1, hyl], fun i hi => ?_⟩ ((Below.refl B w).grown h3 (by omega) hlt) h3
    have key : ∀ lv f, Itms w lv f → Off lv f v0 → Itms w' lv f ∧ Off lv f v' := fun lv f h1 h2 => ⟨h1.kept h3 (fun hf a n c e => h2 hf a n c e), fun hf a n c e => by
      rcases h5 with h5 | h5
      · rw [h5]; exact h2 hf a n c e
      · rw [h5]; intro q; injection q with q; have := lfR_lt (v := v0) h1 hf e; omega⟩
    by_cases c : i < fs.length
    · obtain ⟨lv, e, h1, h2, h4⟩ := hlv.2 i c
      refine ⟨lv, by rw [List.getElem?_append_left (by rw [hlv.1]; exact c)]; exact e, ?_⟩
      rw [List.getElem_append_left c]
      exact ⟨(key _ _ h1 h4).1, h2, (key _ _ h1 h4).2⟩
    · rw [List.length_append] at hi
      obtain ⟨lv, e, h1, h2, h4⟩ := hnew.2 (i - fs.length) (by omega)
      refine ⟨lv, by rw [List.getElem?_append_right (by rw [hlv.1]; omega), hlv.1]; exact e, ?_⟩
      rw [List.getElem_append_right (by omega)]
      exact ⟨(key _ _ h1 h4).1, h2, (key _ _ h1 h4).2⟩
/-- a box of a tree is no row of leaves -/
theorem OwnR.neBox {B g : Nat} {w : World} {v : Value} {fs : List (List Itm)} {cs : Array Value} (h : OwnR B w v fs) (hb : w.heap[g]? = some (.cells cs 25 (0, 0))) : v.ownBlock ≠ some g := by
  obtain ⟨xs, ho, -⟩ := h
  rcases ho.2 with ⟨rfl, -⟩ | ⟨gr, cap, cur, rfl, -, hg, -⟩
  · simp [Value.ownBlock]
  · intro e
    have e : gr = g := by injection e
    subst e
    rw [hb] at hg
    injection hg with hg
    injection hg with _ hg _
    exact absurd hg (by decide)
theorem OwnR.lt {B : Nat} {w : World} {v : Value} {fs : List (List Itm)} (h : OwnR B w v fs) : ∀ k, v.ownBlock = some k → B ≤ k ∧ k < w.heap.size := by
  obtain ⟨xs, ho, -⟩ := h
  exact fun k hk => World.ownsRow.lt ho k hk
/-- a row of one leaf -/
theorem ownR_one {W : World} {b B : Nat} {lv : Value} {f : List Itm} (hb : b = W.heap.size) (hB : B ≤ W.heap.size) (h : Itms W lv f) (hn : NilOk lv) : OwnR B (W.alloc (.cells #[lv] 28)) (.slice (some ⟨b, 0, none⟩) 1 1) [f] := by
  subst hb
  refine ⟨[lv], own_of hB (blk_alloc W _) (by simp) (by unfold maxLen; omega) (Nat.le_refl _) (by simp) (fun j _ => by simp), lfR_one (h.keep (below_box W _)) hn (fun hf a n c e q => ?_)⟩
  have h2 : W.heap.size = a.block := by simpa [Value.ownBlock] using q
  have := lfR_lt (v := .slice none 0 0) h hf e
  omega
/-- what anyTree hands back -/
def ATPost (w : World) (g : Nat) (p : Int) (e : Ending) (w' : World) : Prop := ∃ v t q, e = .returned (.agg #[v]) ∧ OwnR w.heap.size w' v t ∧ (flatT t).length ≤ 40 ∧ t.length ≤ 40 ∧ Rd w' g q ∧ (0 ≤ q ∧ q ≤ p + 101) ∧ w.grownBy w' (some g)
theorem items_two {w : World} {g : Nat} {x y : Itm} {ty : TypeId} (h : w.heap[g]? = some (.cells #[.int .i64 x.k, .int .i64 x.r, .int .i64 y.k, .int .i64 y.r] ty (0, 0))) : Itms w (.slice (some ⟨g, 0, none⟩) 2 2) [x, y] :=
  ⟨_, 2, rfl, Nat.le_refl 2, by omega, .inr ⟨g, 0, rfl, lt_block h, fun i hi => by
    match i, hi with
    | 0, _ => exact ⟨by rw [cell_block h]; rfl, by rw [cell_block h]; rfl⟩
    | 1, _ => exact ⟨by rw [cell_block h]; rfl, by rw [cell_block h]; rfl⟩⟩⟩
theorem itms_zero {w : World} {g : Nat} : Itms w (.slice (some ⟨g, 0, none⟩) 0 0) [] := ⟨_, 0, rfl, Nat.le_refl 0, by omega, .inl rfl⟩
/-- anyTree under way: the tree lies in the box Bx -/
structure ATI (w wr : World) (g Bx : Nat) (v : Value) (t : List (List Itm)) (q : Int) : Prop where
  rd : Rd wr g q
  grown : w.grownBy wr (some g)
  bx : wr.heap[Bx]? = some (.cells #[v] 25 (0, 0))
  zx : wr.heap[w.heap.size]? = some (.cells #[.slice none 0 0] 25 (0, 0))
  lv : OwnR w.heap.size wr v t
  hB : w.heap.size < Bx
  hg : g < w.heap.size
  fl : (flatT t).length ≤ 40
  tl : t.length ≤ 40
/-- the tree in the box turned -/
theorem ATI.put {w w2 w4 : World} {g Bx : Nat} {v v' : Value} {t t' : List (List Itm)} {q : Int} {row : Option Nat} (h : ATI w w2 g Bx v t q) (hg : w2.grownBy w4 row) (hrow : ∀ k, row = some k → w.heap.size ≤ k ∧ k ≠ Bx ∧ k ≠ w.heap.size) (ho : OwnR w.heap.size w4 v' t') (hf : (flatT t').length ≤ 40) (ht : t'.length ≤ 40) :
    ATI w (w4.setCell ⟨Bx, 0, none⟩ v') g Bx v' t' q := by
  have hBg : g < Bx := Nat.lt_trans h.hg h.hB
  obtain ⟨a0, n0, c0, rfl⟩ := ownR_any h.lv
  have hbx : w4.heap[Bx]? = some (.cells #[.slice a0 n0 c0] 25 (0, 0)) := (hg.block Bx (lt_block h.bx) (fun e => (hrow Bx e.symm).2.1 rfl)).trans h.bx
  have hbl : Below w.heap.size w2 w4 := (Below.refl _ _).grown hg h.grown.size (fun k e => (hrow k e).1)
  have hrd : Rd w4 g q := h.rd.keep hbl h.hg
  refine ⟨hrd.setC hBg, ?_, by rw [set_block hbx]; rfl, ?_, ho.boxT hbx, h.hB, h.hg, hf, ht⟩
  · refine grown_setN ⟨hg.os.trans h.grown.os, hg.tape.trans h.grown.tape, hg.output.trans h.grown.output, Nat.le_trans h.grown.size hg.size, fun i hi hr => ?_⟩ (Nat.le_of_lt h.hB)
    exact (hbl.block i hi).trans (h.grown.block i hi hr)
  · refine (Below.heap_setCell w4 ⟨Bx, 0, none⟩ v' w.heap.size (by show w.heap.size ≠ Bx; have := h.hB; omega)).trans ?_
    exact (hg.block w.heap.size (lt_block h.zx) (fun e => (hrow _ e.symm).2.2 rfl)).trans h.zx
/-- what anyTree ends with: the box is loaded and stored into the result's block -/
theorem ATI.fin {w wr : World} {g Bx : Nat} {v : Value} {t : List (List Itm)} {p q : Int} (h : ATI w wr g Bx v t q) (hq : 0 ≤ q ∧ q ≤ p + 101) : ATPost w g p (.returned (.agg #[v])) (wr.setCell ⟨w.heap.size, 0, none⟩ v) := by
  refine ⟨v, t, q, rfl, h.lv.boxT h.zx, h.fl, h.tl, h.rd.setC h.hg, hq, grown_setN h.grown (Nat.le_refl _)⟩
set_option maxHeartbeats 16000000 in
set_option maxRecDepth 100000 in
theorem anyTree_any (g : Nat) (p : Int) (w : World) (h : Rd w g p) (hp : p < 900000000) (hp0 : 0 ≤ p) :
    Calls Try.prog 38 #[.pointer (some ⟨g, 0, none⟩)] w (ATPost w g p) := by
  have hR := hide h
  have hg : g < w.heap.size := h.lt
  clear h
  have HZ0 := hide (blk_alloc w (.cells #[.slice none 0 0] 25))
  go_enter Try.func38, Try.ntmps38
  go_wp2_with fail
  refine (randomTree_any g p _ (hR.out.alloc _) hp hp0).mono ?_
  rintro e w1 ⟨v, t, q, rfl, hvt, ho, hrd, ⟨hq0, hq1⟩, hgr⟩
  have hzl := lt_block HZ0.out
  have Z1 := hide ((hgr.block w.heap.size hzl (fun e => by injection e with e; omega)).trans HZ0.out)
  have G1 : Hid (w.grownBy w1 (some g)) := grown_trans (grown_below (below_box w _) _) hgr
  have O1 := hide (ho.mono (B' := w.heap.size) (below_box w _).size)
  have R1 := hide hrd
  have hn30 := hvt.n
  have ht30 := hvt.leaves
  have hws := G1.out.size
  obtain ⟨va, vc, rfl⟩ := ho.nil_eq
  clear hvt ho hrd hgr HZ0 hzl
  have HB1 := hide (blk_alloc w1 (.cells #[.slice va t.length vc] 25))
  have hbl := lt_block HB1.out
  go_wp2_with fail
  refine (pick_any g q 20 _ (R1.out.alloc _) (by omega)).mono ?_
  rintro e w2 ⟨c, rfl, -, hR2, hg2⟩
  have B3 := hide ((hg2.block w1.heap.size hbl (fun e => by injection e with e; omega)).trans HB1.out)
  have Z3 := hide ((hg2.block w.heap.size (lt_block (blk_keep Z1.out _)) (fun e => by injection e with e; omega)).trans (blk_keep Z1.out _))
  have G3 : Hid (w.grownBy w2 (some g)) := grown_trans (grown_trans G1.out (grown_below (below_box w1 _) _)) hg2
  have O3 := hide ((O1.out.keep (below_box w1 _)).byRd hg (R1.out.alloc _) hg2)
  have R3 := hide hR2
  have hg2s := hg2.size
  have hw12 : w1.heap.size < w2.heap.size := lt_block B3.out
  obtain ⟨Bx, hBx⟩ : ∃ B, B = w1.heap.size := ⟨_, rfl⟩
  rw [← hBx] at B3 hw12 ⊢
  have hBw : w.heap.size < Bx := by
    have := lt_block Z1.out
    omega
  have HI : Hid (ATI w w2 g Bx (.slice va t.length vc) t (q + 1)) := ⟨R3.out, G3.out, B3.out, Z3.out, O3.out, hBw, hg, by omega, by omega⟩
  have hws2 := G3.out.size
  clear hR2 hg2 hBx HB1 hbl O1 R1 G1 Z1 hg2s hws R3 G3 Z3 O3
  have c0 := cell_block B3.out 0
  have f0 := froz_block B3.out 0
  clear B3
  by_cases hc0 : c = 0
  · subst hc0
    have HA := hide (below_box2 w2 (.cells #[.int .i64 999999, .int .i64 99] 38) (.cells #[.slice (some ⟨w2.heap.size, 0, none⟩) 1 1] 28))
    have HIT : Hid (Itms ((w2.alloc (.cells #[.int .i64 999999, .int .i64 99] 38)).alloc (.cells #[.slice (some ⟨w2.heap.size, 0, none⟩) 1 1] 28)) (.slice (some ⟨w2.heap.size, 0, none⟩) 1 1) [(⟨999999, 99⟩ : Itm)]) := (one_itms (x := ⟨999999, 99⟩) (ty := 38) (blk_alloc w2 _)).keep (below_box _ _)
    have A0 := (HA.out.cell (p := ⟨Bx, 0, none⟩) hw12).trans c0
    go_wp2_with (at_builtin; refine wpList_appR2 rfl (.tmp 11) (.tmp 14) rfl w.heap.size (.slice va t.length vc) t (by rfl) (HI.out.lv.keep HA.out) (by have := HA.out.size; omega) (by omega) (.slice (some ⟨w2.heap.size + 1, 0, none⟩) 1 1) [.slice (some ⟨w2.heap.size, 0, none⟩) 1 1] [[(⟨999999, 99⟩ : Itm)]] (by rfl) (.inr ⟨⟨w2.heap.size + 1, 0, none⟩, 1, rfl, World.news_of_block (cs := #[.slice (some ⟨w2.heap.size, 0, none⟩) 1 1]) (blk_at (by simp) _)⟩) (lfR_one HIT.out nilOk_some (fun hf a n c e qq => by
      first
      | exact absurd rfl hf
      | (injection e with e _ _
         injection e with e
         subst e
         have := (HI.out.lv.lt _ qq).2
         simp only at this
         omega))) (by simp) ?next)
    case next =>
      intro v4 w4 ho4 hb4 hg4
      have HG : Hid (w2.grownBy w4 (Value.slice va t.length vc).ownBlock) := grown_trans (grown_below HA.out _) hg4
      have HNB := hide (HI.out.lv.neBox HI.out.bx)
      have HNZ := hide (HI.out.lv.neBox HI.out.zx)
      have HS := hide (HI.out.put HG.out (fun k hk => ⟨(HI.out.lv.lt k hk).1, fun e => HNB.out (by rw [hk, e]), fun e => HNZ.out (by rw [hk, e])⟩) ho4 (by simp [flatT] at *; omega) (by simp; omega))
      have B4 := hide ((HG.out.block Bx hw12 (fun e => HNB.out e.symm)).trans HI.out.bx)
      have b0 := cell_block B4.out 0
      have bf := froz_block B4.out 0
      have hw4 := lt_block B4.out
      obtain ⟨fa, fn, fc, rfl⟩ := ownR_any ho4
      clear ho4 hb4 hg4 HG HNB HNZ A0 HIT HA c0 f0 HI B4
      have c5 := cell_block HS.out.bx 0
      have z0 := cell_block HS.out.zx 0
      have zf := froz_block HS.out.zx 0
      have S5 := hide (set_block HS.out.zx 0 (.slice fa fn fc))
      have s5 := cell_block S5.out 0
      go_wp2_with fail
      all_goals go_tidy
      refine ⟨rfl, .agg #[.slice fa fn fc], by simp [results, Try.results38, go_sem, s5], HS.out.fin (by omega)⟩
  · have d0 : (c == 0) = false := beq_false_of_ne hc0
    by_cases hc1 : c = 1
    · subst hc1
      clear hc0 d0
      have HA := hide (below_box2 w2 (.cells #[] 38) (.cells #[.slice (some ⟨w2.heap.size, 0, none⟩) 0 0] 28))
      have HIT : Hid (Itms ((w2.alloc (.cells #[] 38)).alloc (.cells #[.slice (some ⟨w2.heap.size, 0, none⟩) 0 0] 28)) (.slice (some ⟨w2.heap.size, 0, none⟩) 0 0) ([] : List Itm)) := itms_zero
      have A0 := (HA.out.cell (p := ⟨Bx, 0, none⟩) hw12).trans c0
      go_wp2_with (at_builtin; refine wpList_appR2 rfl (.tmp 20) (.tmp 22) rfl w.heap.size (.slice va t.length vc) t (by rfl) (HI.out.lv.keep HA.out) (by have := HA.out.size; omega) (by omega) (.slice (some ⟨w2.heap.size + 1, 0, none⟩) 1 1) [.slice (some ⟨w2.heap.size, 0, none⟩) 0 0] [([] : List Itm)] (by rfl) (.inr ⟨⟨w2.heap.size + 1, 0, none⟩, 1, rfl, World.news_of_block (cs := #[.slice (some ⟨w2.heap.size, 0, none⟩) 0 0]) (blk_at (by simp) _)⟩) (lfR_one HIT.out nilOk_some (fun hf a n c e qq => by
        first
        | exact absurd rfl hf
        | (injection e with e _ _
           injection e with e
           subst e
           have := (HI.out.lv.lt _ qq).2
           simp only at this
           omega))) (by simp) ?next)
      case next =>
        intro v4 w4 ho4 hb4 hg4
        have HG : Hid (w2.grownBy w4 (Value.slice va t.length vc).ownBlock) := grown_trans (grown_below HA.out _) hg4
        have HNB := hide (HI.out.lv.neBox HI.out.bx)
        have HNZ := hide (HI.out.lv.neBox HI.out.zx)
        have HS := hide (HI.out.put HG.out (fun k hk => ⟨(HI.out.lv.lt k hk).1, fun e => HNB.out (by rw [hk, e]), fun e => HNZ.out (by rw [hk, e])⟩) ho4 (by simp [flatT] at *; omega) (by simp; omega))
        have B4 := hide ((HG.out.block Bx hw12 (fun e => HNB.out e.symm)).trans HI.out.bx)
        have b0 := cell_block B4.out 0
        have bf := froz_block B4.out 0
        have hw4 := lt_block B4.out
        obtain ⟨fa, fn, fc, rfl⟩ := ownR_any ho4
        clear ho4 hb4 hg4 HG HNB HNZ A0 HIT HA c0 f0 HI B4
        have c5 := cell_block HS.out.bx 0
        have z0 := cell_block HS.out.zx 0
        have zf := froz_block HS.out.zx 0
        have S5 := hide (set_block HS.out.zx 0 (.slice fa fn fc))
        have s5 := cell_block S5.out 0
        go_wp2_with fail
        all_goals go_tidy
        refine ⟨rfl, .agg #[.slice fa fn fc], by simp [results, Try.results38, go_sem, s5], HS.out.fin (by omega)⟩
    · have d1 : (c == 1) = false := beq_false_of_ne hc1
      by_cases hc2 : c = 2
      · subst hc2
        clear hc0 hc1 d0 d1
        have HA := hide (below_box2 w2 (.cells #[.int .i64 20, .int .i64 0, .int .i64 20, .int .i64 1] 38) (.cells #[.slice (some ⟨w2.heap.size, 0, none⟩) 2 2] 28))
        have HO4 : Hid (OwnR w2.heap.size ((w2.alloc (.cells #[.int .i64 20, .int .i64 0, .int .i64 20, .int .i64 1] 38)).alloc (.cells #[.slice (some ⟨w2.heap.size, 0, none⟩) 2 2] 28)) (.slice (some ⟨w2.heap.size + 1, 0, none⟩) 1 1) [[(⟨20, 0⟩ : Itm), ⟨20, 1⟩]]) := ownR_one (by simp) (by simp) (items_two (x := ⟨20, 0⟩) (y := ⟨20, 1⟩) (ty := 38) (blk_alloc w2 _)) nilOk_some
        have HNW := hide (HI.out.lv.news)
        obtain ⟨ys, HN1, HN2, HN3⟩ := HNW.out
        have HN1 := hide HN1
        have HLR : Hid (LfR ((w2.alloc (.cells #[.int .i64 20, .int .i64 0, .int .i64 20, .int .i64 1] 38)).alloc (.cells #[.slice (some ⟨w2.heap.size, 0, none⟩) 2 2] 28)) (.slice (some ⟨w2.heap.size + 1, 0, none⟩) 1 1) ys t) := lfR_low ⟨HN2, HN3⟩ HA.out (fun k hk => by have hk : w2.heap.size + 1 = k := (by simpa [Value.ownBlock] using hk); omega)
        have A0 := (HA.out.cell (p := ⟨Bx, 0, none⟩) hw12).trans c0
        clear HN3 HNW
        have HN2 := hide HN2
        go_wp2_with (at_builtin; refine wpList_appR2 rfl (.tmp 30) (.tmp 32) rfl w2.heap.size (.slice (some ⟨w2.heap.size + 1, 0, none⟩) 1 1) [[(⟨20, 0⟩ : Itm), ⟨20, 1⟩]] (by rfl) HO4.out (by simp; omega) (by simp) (.slice va t.length vc) ys t (by rfl) (HN1.out.keep HA.out) HLR.out (by omega) ?next)
        case next =>
          intro v4 w4 ho4 hb4 hg4
          have hb5 : Below w2.heap.size w2 w4 := HA.out.trans hb4
          have HS := hide (HI.out.put (grown_below hb5 none) (fun k hk => by cases hk) (ho4.mono hws2) (by simp [flatT] at *; omega) (by simp; omega))
          have B4 := hide ((hb5.block Bx hw12).trans HI.out.bx)
          have b0 := cell_block B4.out 0
          have bf := froz_block B4.out 0
          have hw4 := lt_block B4.out
          obtain ⟨fa, fn, fc, rfl⟩ := ownR_any ho4
          clear ho4 hb4 hg4 hb5 A0 HA c0 f0 HI B4 HN1 HLR HO4 HN2
          have c5 := cell_block HS.out.bx 0
          have z0 := cell_block HS.out.zx 0
          have zf := froz_block HS.out.zx 0
          have S5 := hide (set_block HS.out.zx 0 (.slice fa fn fc))
          have s5 := cell_block S5.out 0
          go_wp2_with fail
          all_goals go_tidy
          refine ⟨rfl, .agg #[.slice fa fn fc], by simp [results, Try.results38, go_sem, s5], HS.out.fin (by omega)⟩
      · have d2 : (c == 2) = false := beq_false_of_ne hc2
        clear hc0 hc1 hc2
        have c5 := cell_block HI.out.bx 0
        have z0 := cell_block HI.out.zx 0
        have zf := froz_block HI.out.zx 0
        have S5 := hide (set_block HI.out.zx 0 (.slice va t.length vc))
        have s5 := cell_block S5.out 0
        go_wp2_with fail
        all_goals go_tidy
        refine ⟨rfl, .agg #[.slice va t.length vc], by simp [results, Try.results38, go_sem, s5], HI.out.fin (by omega)⟩
end Go.Proofs.Ytmlphdniiiijpaa
