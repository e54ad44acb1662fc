/-
  cellAt, CellsAt of the specification; append of cells and of notes.
-/
import Derived.Test.YtnicjpfkiblimaaCk3
import Derived.Maps.AppendAt
set_option linter.all false
namespace Go.Proofs.Ytnicjpfkiblimaa
open Go.RowKit
theorem infoAppCell : (Try.prog.info? 33).map (fun i => (i.zero, i.size, i.bytes)) = some (some (.agg #[.int .i64 0, .int .i64 0]), 2, 16) := by kernel_rfl
/-- append of any records to a row that the call owns -/
theorem wpList_appC {w : World} {ops : Array Oper} {rest : List Oper} {o : Oper} {a : Act} {Q : Exit → Act → World → Prop} (hgd : o.guard = none) (s x : Operand)
    (ho : o.op = .call { callee := .builtin .append, args := #[s, x], argTypes := #[23, 23] })
    (B : Nat) (v0 : Value) (l0 : List RCell) (hs : a.eval s = v0) (hown : OwnCl B w v0 l0) (h0 : l0.length ≤ 1048576)
    (v : Value) (l : List RCell) (hx : a.eval x = v) (h : Cells w v l) (hnil : NilOk v) (hn : l.length ≤ 1048576) (hB : B ≤ w.heap.size)
    (hK : ∀ v' w', OwnCl B w' v' (l0 ++ l) → w.grownBy w' v0.ownBlock → wpList Try.prog ops Q rest (a.put o.dst v') w') : wpList Try.prog ops Q (o :: rest) a w := by
  obtain ⟨i0, hi, hz0, hz1, hz2⟩ := info_parts infoAppCell
  obtain ⟨ao, cap, rfl, hl, hcap, hd⟩ := h
  have happ : celCells (l0 ++ l) = celCells l0 ++ celCells l := by simp [celCells]
  cases ao with
  | none =>
    have hl0 : l = [] := by
      rcases hd with hd | ⟨b, off, he, -⟩
      · exact hd
      · cases he
    subst hl0
    have hc := hnil 0 cap rfl
    subst hc
    have hrun := run_append_owned_none (P := Try.prog) w B 23 o.type 33 i0 2 Try.underlying23 hi v0 l0.length (celCells l0) hown
    refine Lib.wpList_append_run w hgd s x _ _ ho _ _ hs hx _ _ hrun ?_
    exact hK v0 w (by rw [List.append_nil]; exact hown) (World.grownBy.refl _ _)
  | some ad =>
    have hnews : ∀ j u, (celCells l)[j]? = some u → w.cell? (ad.add j) = some u := by
      rcases hd with rfl | ⟨b, off, he, -, hc⟩
      · intro j u hu; simp [celCells] at hu
      · injection he with he
        subst he
        intro j u hu
        rw [num_add]; exact celCells_news hc j u hu
    refine wpList_append_own w hgd s x 23 ho B 33 i0 _ 2 16 Try.underlying23 hi hz0 hz1 hz2 rfl (by decide) v0 l0.length (celCells l0) hs hown ad l.length cap (celCells l) hx (celCells_len l) hnews (celCells_one l) (by unfold maxLen; omega) (by omega) hB ?_
    intro v' w' h1 h2 _
    refine hK v' w' ?_ h2
    unfold OwnCl
    rw [happ, List.length_append]
    exact h1
section
variable (w : World)
theorem step_appC {ops : Array Oper} {o : Oper} {a : Act} {K : Act → World → Prop} {Q : Exit → Act → World → Prop} {E : Prop} (hgd : o.guard = none) (s x : Operand)
    (ho : o.op = .call { callee := .builtin .append, args := #[s, x], argTypes := #[23, 23] })
    (B : Nat) (v0 : Value) (l0 : List RCell) (hs : a.eval s = v0) (hown : OwnCl B w v0 l0) (h0 : l0.length ≤ 1048576)
    (v : Value) (l : List RCell) (hx : a.eval x = v) (h : Cells w v l) (hnil : NilOk v) (hn : l.length ≤ 1048576) (hB : B ≤ w.heap.size)
    (hK : ∀ v' w', OwnCl B w' v' (l0 ++ l) → w.grownBy w' v0.ownBlock → K (a.put o.dst v') w') :
    if Region.wanted o (yielded ops a.tmps) = true then Oper.wp Try.prog o a w K Q else E := by
  have hw : Region.wanted o (yielded ops a.tmps) = true := by simp [Region.wanted, hgd]
  rw [if_pos hw]
  obtain ⟨i0, hi, hz0, hz1, hz2⟩ := info_parts infoAppCell
  obtain ⟨ao, cap, rfl, hl, hcap, hd⟩ := h
  have happ : celCells (l0 ++ l) = celCells l0 ++ celCells l := by simp [celCells]
  cases ao with
  | none =>
    have hl0 : l = [] := by
      rcases hd with hd | ⟨b, off, he, -⟩
      · exact hd
      · cases he
    subst hl0
    have hc := hnil 0 cap rfl
    subst hc
    have hrun := run_append_owned_none (P := Try.prog) w B 23 o.type 33 i0 2 Try.underlying23 hi v0 l0.length (celCells l0) hown
    simp only [List.length_nil] at hx
    unfold Oper.wp execOp
    simp only [ho, resolve, invoke, builtin, Sem.run_bind, Sem.run_pure, Result.andThen_ok, List.map_toArray, List.map_cons, List.map_nil, hs, hx, hrun]
    exact hK v0 w (by rw [List.append_nil]; exact hown) (World.grownBy.refl _ _)
  | some ad =>
    have hnews : ∀ j u, (celCells l)[j]? = some u → w.cell? (ad.add j) = some u := by
      rcases hd with rfl | ⟨b, off, he, -, hc⟩
      · intro j u hu; simp [celCells] at hu
      · injection he with he
        subst he
        intro j u hu
        rw [num_add]; exact celCells_news hc j u hu
    obtain ⟨v', w', hrun, h2, h3, -, -⟩ := run_append_own_at (P := Try.prog) w B 23 o.type 33 i0 _ 2 16 Try.underlying23 hi hz0 hz1 hz2 rfl (by decide) v0 l0.length (celCells l0) hown ad l.length cap (celCells l) (celCells_len l) hnews (celCells_one l) (by unfold maxLen; omega) (by omega) hB
    unfold Oper.wp execOp
    simp only [ho, resolve, invoke, builtin, Sem.run_bind, Sem.run_pure, Result.andThen_ok, List.map_toArray, List.map_cons, List.map_nil, hs, hx, hrun]
    refine hK v' w' ?_ h3
    unfold OwnCl
    rw [happ, List.length_append]
    exact h2
end
theorem lit_C {W : World} {b B : Nat} (hb : b = W.heap.size) (hB : B ≤ W.heap.size) : OwnCl B (W.alloc (.cells #[] 33)) (.slice (some ⟨b, 0, none⟩) 0 0) [] := by subst hb; exact World.ownsRow_made W #[] 0 hB (by unfold maxLen; omega) (by simp)
theorem infoAppNote : (Try.prog.info? 41).map (fun i => (i.zero, i.size, i.bytes)) = some (some (.agg #[.bool false, .int .i64 0, .int .i64 0, .int .i64 0, .int .i64 0]), 5, 40) := by kernel_rfl
/-- append of any records to a row that the call owns -/
theorem wpList_appT {w : World} {ops : Array Oper} {rest : List Oper} {o : Oper} {a : Act} {Q : Exit → Act → World → Prop} (hgd : o.guard = none) (s x : Operand)
    (ho : o.op = .call { callee := .builtin .append, args := #[s, x], argTypes := #[24, 24] })
    (B : Nat) (v0 : Value) (l0 : List RNote) (hs : a.eval s = v0) (hown : OwnNt B w v0 l0) (h0 : l0.length ≤ 1048576)
    (v : Value) (l : List RNote) (hx : a.eval x = v) (h : Notes w v l) (hnil : NilOk v) (hn : l.length ≤ 1048576) (hB : B ≤ w.heap.size)
    (hK : ∀ v' w', OwnNt B w' v' (l0 ++ l) → w.grownBy w' v0.ownBlock → wpList Try.prog ops Q rest (a.put o.dst v') w') : wpList Try.prog ops Q (o :: rest) a w := by
  obtain ⟨i0, hi, hz0, hz1, hz2⟩ := info_parts infoAppNote
  obtain ⟨ao, cap, rfl, hl, hcap, hd⟩ := h
  have happ : notCells (l0 ++ l) = notCells l0 ++ notCells l := by simp [notCells]
  cases ao with
  | none =>
    have hl0 : l = [] := by
      rcases hd with hd | ⟨b, off, he, -⟩
      · exact hd
      · cases he
    subst hl0
    have hc := hnil 0 cap rfl
    subst hc
    have hrun := run_append_owned_none (P := Try.prog) w B 24 o.type 41 i0 5 Try.underlying24 hi v0 l0.length (notCells l0) hown
    refine Lib.wpList_append_run w hgd s x _ _ ho _ _ hs hx _ _ hrun ?_
    exact hK v0 w (by rw [List.append_nil]; exact hown) (World.grownBy.refl _ _)
  | some ad =>
    have hnews : ∀ j u, (notCells l)[j]? = some u → w.cell? (ad.add j) = some u := by
      rcases hd with rfl | ⟨b, off, he, -, hc⟩
      · intro j u hu; simp [notCells] at hu
      · injection he with he
        subst he
        intro j u hu
        rw [num_add]; exact notCells_news hc j u hu
    refine wpList_append_own w hgd s x 24 ho B 41 i0 _ 5 40 Try.underlying24 hi hz0 hz1 hz2 rfl (by decide) v0 l0.length (notCells l0) hs hown ad l.length cap (notCells l) hx (notCells_len l) hnews (notCells_one l) (by unfold maxLen; omega) (by omega) hB ?_
    intro v' w' h1 h2 _
    refine hK v' w' ?_ h2
    unfold OwnNt
    rw [happ, List.length_append]
    exact h1
section
variable (w : World)
theorem step_appT {ops : Array Oper} {o : Oper} {a : Act} {K : Act → World → Prop} {Q : Exit → Act → World → Prop} {E : Prop} (hgd : o.guard = none) (s x : Operand)
    (ho : o.op = .call { callee := .builtin .append, args := #[s, x], argTypes := #[24, 24] })
    (B : Nat) (v0 : Value) (l0 : List RNote) (hs : a.eval s = v0) (hown : OwnNt B w v0 l0) (h0 : l0.length ≤ 1048576)
    (v : Value) (l : List RNote) (hx : a.eval x = v) (h : Notes w v l) (hnil : NilOk v) (hn : l.length ≤ 1048576) (hB : B ≤ w.heap.size)
    (hK : ∀ v' w', OwnNt B w' v' (l0 ++ l) → w.grownBy w' v0.ownBlock → K (a.put o.dst v') w') :
    if Region.wanted o (yielded ops a.tmps) = true then Oper.wp Try.prog o a w K Q else E := by
  have hw : Region.wanted o (yielded ops a.tmps) = true := by simp [Region.wanted, hgd]
  rw [if_pos hw]
  obtain ⟨i0, hi, hz0, hz1, hz2⟩ := info_parts infoAppNote
  obtain ⟨ao, cap, rfl, hl, hcap, hd⟩ := h
  have happ : notCells (l0 ++ l) = notCells l0 ++ notCells l := by simp [notCells]
  cases ao with
  | none =>
    have hl0 : l = [] := by
      rcases hd with hd | ⟨b, off, he, -⟩
      · exact hd
      · cases he
    subst hl0
    have hc := hnil 0 cap rfl
    subst hc
    have hrun := run_append_owned_none (P := Try.prog) w B 24 o.type 41 i0 5 Try.underlying24 hi v0 l0.length (notCells l0) hown
    simp only [List.length_nil] at hx
    unfold Oper.wp execOp
    simp only [ho, resolve, invoke, builtin, Sem.run_bind, Sem.run_pure, Result.andThen_ok, List.map_toArray, List.map_cons, List.map_nil, hs, hx, hrun]
    exact hK v0 w (by rw [List.append_nil]; exact hown) (World.grownBy.refl _ _)
  | some ad =>
    have hnews : ∀ j u, (notCells l)[j]? = some u → w.cell? (ad.add j) = some u := by
      rcases hd with rfl | ⟨b, off, he, -, hc⟩
      · intro j u hu; simp [notCells] at hu
      · injection he with he
        subst he
        intro j u hu
        rw [num_add]; exact notCells_news hc j u hu
    obtain ⟨v', w', hrun, h2, h3, -, -⟩ := run_append_own_at (P := Try.prog) w B 24 o.type 41 i0 _ 5 40 Try.underlying24 hi hz0 hz1 hz2 rfl (by decide) v0 l0.length (notCells l0) hown ad l.length cap (notCells l) (notCells_len l) hnews (notCells_one l) (by unfold maxLen; omega) (by omega) hB
    unfold Oper.wp execOp
    simp only [ho, resolve, invoke, builtin, Sem.run_bind, Sem.run_pure, Result.andThen_ok, List.map_toArray, List.map_cons, List.map_nil, hs, hx, hrun]
    refine hK v' w' ?_ h3
    unfold OwnNt
    rw [happ, List.length_append]
    exact h2
end
theorem lit_T {W : World} {b B : Nat} (hb : b = W.heap.size) (hB : B ≤ W.heap.size) : OwnNt B (W.alloc (.cells #[] 41)) (.slice (some ⟨b, 0, none⟩) 0 0) [] := by subst hb; exact World.ownsRow_made W #[] 0 hB (by unfold maxLen; omega) (by simp)

theorem one_cell {w : World} {g : Nat} {x y : Int} {ty : TypeId} {f : Nat × Nat} (h : w.heap[g]? = some (.cells #[.int .i64 x, .int .i64 y] ty f)) : Cells w (.slice (some ⟨g, 0, none⟩) 1 1) [⟨x, y⟩] :=
  ⟨_, 1, rfl, Nat.le_refl 1, by omega, .inr ⟨g, 0, rfl, lt_block h, fun i hi => by
    have : i = 0 := by simp at hi; exact hi
    subst this
    exact ⟨by rw [cell_block h]; rfl, by rw [cell_block h]; rfl⟩⟩⟩
theorem blk_oth {w : World} {b b' o : Nat} {v : Value} {x : Obj} (h : w.heap[b]? = some x) (hne : b ≠ b') : (w.setCell ⟨b', o, none⟩ v).heap[b]? = some x := (Below.heap_setCell w ⟨b', o, none⟩ v b hne).trans h
def CAPost (w : World) (e : Ending) (w' : World) : Prop := ∃ x y : Int, e = .returned (.agg #[.int .i64 x, .int .i64 y]) ∧ Below w.heap.size w w'
set_option maxHeartbeats 8000000 in
theorem cellAt_any (v u : Value) (ns : List Int) (l : List RNote) (j m : Nat) (w : World) (h : Nums w v ns) (h' : Notes w u l) (hj : j < ns.length) (hm : m ≤ l.length) (hl : l.length ≤ 1000) :
    Calls Try.prog 35 #[v, u, .int .i64 (j : Int), .int .i64 (m : Int)] w (CAPost w) := by
  have HU := hide h'
  obtain ⟨a, cap, rfl, hcl, hcap, hd⟩ := h
  obtain ⟨a2, cap2, rfl, hl2, hcap2, hd2⟩ := h'
  obtain ⟨b, off, rfl, hbb, hcell⟩ := hd.resolve_left (by rintro rfl; simp at hj)
  have e0 := hcell j hj
  clear hcell hd
  generalize ns[j] = x at *
  have hj' : (j : Int) < (ns.length : Int) := by omega
  have B0 := hide (blk_keep (blk_alloc w (.cells #[.int .i64 0, .int .i64 0] 33)) (.cells #[.int .i64 x, .int .i64 0] 33))
  have B1 := hide (blk_at (W := w.alloc (.cells #[.int .i64 0, .int .i64 0] 33)) (b := w.heap.size + 1) (by simp) (.cells #[.int .i64 x, .int .i64 0] 33))
  have HB := hide (below_box2 w (.cells #[.int .i64 0, .int .i64 0] 33) (.cells #[.int .i64 x, .int .i64 0] 33))
  go_enter Try.func35, Try.ntmps35
  go_wp2_with fail
  go_loopg [10] m (fun gk s10 wr => Below w.heap.size w wr ∧ wr.heap[w.heap.size]? = some (.cells #[.int .i64 0, .int .i64 0] 33 (0, 0)) ∧ ∃ (k : Nat) (x y : Int), k + gk = m ∧ s10 = .int .i64 (k : Int) ∧ wr.heap[w.heap.size + 1]? = some (.cells #[.int .i64 x, .int .i64 y] 33 (0, 0)))
  case atStart => exact ⟨HB.out, B0.out, 0, x, 0, by omega, rfl, B1.out⟩
  case round =>
    clear HB B0 B1 e0
    obtain ⟨hbw, hz, k, x1, y1, hk, rfl, hx⟩ := hrel
    have HW := hide hbw
    have HZ := hide hz
    have HX := hide hx
    have lz := lt_block hz
    have lx := lt_block hx
    have c0 := cell_block hx 0
    have c1 := cell_block hx 1
    have f0 := froz_block hx 0
    have f1 := froz_block hx 1
    clear hz hx
    by_cases hlt : k < m
    · have hkl : k < l.length := by omega
      have hkl' : (k : Int) < (l.length : Int) := by omega
      obtain ⟨b2, off2, rfl, hbb2, hcell2⟩ := hd2.resolve_left (by rintro rfl; simp at hkl)
      obtain ⟨e0, e1, e2, e3, e4⟩ := (hcell2 k hkl).keep hbw
      clear hcell2 hd2 hbw
      generalize l[k] = y at *
      obtain ⟨fin, ow, th, od, nw⟩ := y
      simp only at e0 e1 e2 e3 e4
      cases fin with
      | true =>
        go_wp2_with fail
        go_roundg (gk - 1)
        case measure => omega
        case rel => exact ⟨HW.out, HZ.out, k + 1, x1, y1, by omega, by go_num, HX.out⟩
      | false =>
        cases h1 : (th == (j : Int)) with
        | false =>
          go_wp2_with fail
          go_roundg (gk - 1)
          case measure => omega
          case rel => exact ⟨HW.out, HZ.out, k + 1, x1, y1, by omega, by go_num, HX.out⟩
        | true =>
          have HS := hide (set_block (set_block HX.out 0 (.int .i64 nw)) 1 (.int .i64 ((k : Int) + 1)))
          have HZS := hide (blk_oth (o := 1) (v := .int .i64 ((k : Int) + 1)) (blk_oth (b' := w.heap.size + 1) (o := 0) (v := .int .i64 nw) HZ.out (by omega)) (show w.heap.size ≠ w.heap.size + 1 by omega))
          have HWS : Hid (Below w.heap.size w ((wr.setCell ⟨w.heap.size + 1, 0, none⟩ (.int .i64 nw)).setCell ⟨w.heap.size + 1, 1, none⟩ (.int .i64 ((k : Int) + 1)))) := (HW.out.setCell (by simp) _).setCell (by simp) _
          go_wp2_with fail
          go_roundg (gk - 1)
          case measure => omega
          case rel => exact ⟨HWS.out, HZS.out, k + 1, _, _, by omega, by go_num, HS.out⟩
    · have z0 := cell_block HZ.out 0
      have z1 := cell_block HZ.out 1
      have zf0 := froz_block HZ.out 0
      have zf1 := froz_block HZ.out 1
      have S1 := hide (set_block (set_block HZ.out 0 (.int .i64 x1)) 1 (.int .i64 y1))
      have s0 := cell_block S1.out 0
      have s1 := cell_block S1.out 1
      have HWS : Hid (Below w.heap.size w ((wr.setCell ⟨w.heap.size, 0, none⟩ (.int .i64 x1)).setCell ⟨w.heap.size, 1, none⟩ (.int .i64 y1))) := (HW.out.setCell (by simp) _).setCell (by simp) _
      clear hd2 hbw
      go_wp2_with fail
      all_goals go_tidy
      refine ⟨rfl, .agg #[.int .i64 x1, .int .i64 y1], by simp [results, Try.results35, go_sem, s0, s1], _, _, rfl, HWS.out⟩
/-- what CellsAt hands back -/
def CSPost (w : World) (e : Ending) (w' : World) : Prop := ∃ v c, e = .returned v ∧ OwnCl w.heap.size w' v c ∧ c.length ≤ 6 ∧ Below w.heap.size w w'
set_option maxHeartbeats 8000000 in
set_option maxRecDepth 100000 in
theorem cellsAt_any (v u t : Value) (ns us : List Int) (l : List RNote) (w : World) (h : Nums w v ns) (hnil : NilOk v) (h' : Notes w u l) (h'' : Nums w t us) (hl : l.length ≤ 1000) :
    Calls Try.prog 20 #[v, u, t] w (CSPost w) := by
  have HV := hide h
  have HU := hide h'
  have HT := hide h''
  have HNL := hide hnil
  obtain ⟨a, cap, rfl, hcl, hcap, -⟩ := h
  obtain ⟨a2, cap2, rfl, hl2, hcap2, -⟩ := h'
  obtain ⟨a3, cap3, rfl, hl3, hcap3, hd3⟩ := h''
  have LB := hide (below_box w (.cells #[] 33))
  have O0 : Hid (OwnCl w.heap.size (w.alloc (.cells #[] 33)) (.slice (some ⟨w.heap.size, 0, none⟩) 0 0) []) := lit_C rfl (Nat.le_refl _)
  clear hnil
  go_enter Try.func20, Try.ntmps20
  go_wp2_with fail
  refine (validNotes_any _ _ ns l _ (HV.out.keep LB.out) HNL.out (HU.out.keep LB.out)).mono ?_
  rintro e w1 ⟨b, rfl, hn, hb⟩
  have H1 : Hid (Below w.heap.size w w1) := LB.out.trans (hb.mono LB.out.size)
  have O1 := hide (O0.out.keep hb)
  have HN := hide hn
  have NO : ∀ w', Below w.heap.size w w' → CSPost w (.returned (.slice none 0 0)) w' := fun w' hb => ⟨_, [], rfl, World.ownsRow_nil _ _ _ _, by simp, hb⟩
  have HNO := hide NO
  clear hb hn NO
  cases b with
  | false =>
    go_wp2_with fail
    go_ret
    exact HNO.out _ H1.out
  | true =>
    obtain ⟨hn1, hn6⟩ := HN.out rfl
    by_cases hlen : us.length = ns.length
    · have dl : ((us.length : Int) != (ns.length : Int)) = false := by simp [hlen]
      have HLE := hide hlen
      have hlen1 : us.length ≤ ns.length := by omega
      have hlen2 : ns.length ≤ us.length := by omega
      clear hlen
      go_wp2_with fail
      refine (allIn_any _ us 0 (l.length : Int) w1 (HT.out.keep H1.out)).mono ?_
      rintro e w2 ⟨b, rfl, ha, hb⟩
      have H2 : Hid (Below w.heap.size w w2) := H1.out.trans (hb.mono H1.out.size)
      have O2 := hide (O1.out.keep hb)
      have HA := hide ha
      clear hb ha
      cases b with
      | false =>
        go_wp2_with fail
        go_ret
        exact HNO.out _ H2.out
      | true =>
        have HAL := hide (HA.out rfl)
        go_wp2_with fail
        go_loopg [7, 8] ns.length (fun gk s7 s8 wr => Below w.heap.size w wr ∧ ∃ k : Nat, k + gk = ns.length ∧ s8 = .int .i64 (k : Int) ∧ ∃ c, OwnCl w.heap.size wr s7 c ∧ Hid (c.length = k))
        case atStart => exact ⟨H2.out, 0, by omega, rfl, [], O2.out, hide rfl⟩
        case round =>
          obtain ⟨hbw, k, hk, rfl, c, hown, hck⟩ := hrel
          have HW := hide hbw
          have HO := hide hown
          have hc6 : c.length ≤ 6 := by have := hck.out; omega
          obtain ⟨oa, oc, rfl, -⟩ := own_shape hown
          clear hown
          by_cases hlt : k < ns.length
          · have hku : k < us.length := by omega
            have hku' : (k : Int) < (us.length : Int) := by omega
            obtain ⟨b3, off3, rfl, hbb3, hcell3⟩ := hd3.resolve_left (by rintro rfl; simp at hku)
            have e0 := (hbw.cell hbb3).trans (hcell3 k hku)
            obtain ⟨hx0, hx1⟩ := HAL.out k hku
            clear hcell3 hd3
            generalize us[k] = x at *
            obtain ⟨m, rfl⟩ : ∃ m : Nat, x = (m : Int) := ⟨x.toNat, by omega⟩
            have HCA := hide (cellAt_any _ _ ns l k m wr (HV.out.keep hbw) (HU.out.keep hbw) hlt (by omega) hl)
            clear hbw
            go_wp2_with fail
            refine HCA.out.mono ?_
            rintro e w5 ⟨x, y, rfl, hb⟩
            have H5 : Hid (Below w.heap.size w w5) := HW.out.trans (hb.mono HW.out.size)
            have O5 := hide (HO.out.keep hb)
            have hs5 := H5.out.size
            clear hb
            go_wp2_with (at_builtin; refine wpList_appC rfl (.tmp 34) (.tmp 43) rfl w.heap.size _ c rfl (O5.out.keep (below_box w5 _)) (by omega) _ [⟨x, y⟩] rfl (one_cell (blk_alloc w5 _)) (fun _ _ e => by cases e) (by simp) (by simp; omega) ?next)
            case next =>
              intro v8 w8 ho hg8
              have H8 : Hid (Below w.heap.size w w8) := (H5.out.alloc H5.out.size _).grown hg8 (by simp; omega) (fun q hq => (World.ownsRow.lt O5.out q hq).1)
              have HO8 := hide ho
              clear ho hg8
              go_wp2_with fail
              go_roundg (gk - 1)
              case measure => omega
              case rel => exact ⟨H8.out, k + 1, by omega, by go_num, _, HO8.out, hide (by simp; exact hck.out)⟩
          · clear hd3 hbw
            go_wp2_with fail
            go_ret
            exact ⟨_, c, rfl, HO.out, hc6, HW.out⟩
    · have dl : ((us.length : Int) != (ns.length : Int)) = true := by simp; omega
      clear hlen
      go_wp2_with fail
      go_ret
      exact HNO.out _ H1.out
end Go.Proofs.Ytnicjpfkiblimaa
