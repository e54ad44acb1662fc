/-
  slices.Insert of one element, at Column.
-/
import Derived.Test.YtdijcdadcbhipaaDoorFWid
import Derived.Test.YtdijcdadcbhipaaDoorOwn
import Derived.Lib.Overlaps
import Derived.Lib.AppendZerosOnto
import Derived.Laws.NewBlocks
import Derived.Laws.Externs
set_option linter.all false
namespace Go.Proofs.YtdijcdadcbhipaaDoor
open Go.RowKit
theorem infoInsColumn : (Tryd.prog.info? 27).map (fun i => (i.zero, i.size, i.bytes)) = some (some (.agg #[.int .i64 0, .int .i64 0, .int .i64 0, .string ⟨#[]⟩]), 4, 40) := by kernel_rfl
def InsColumnRet (B : Nat) (v : Value) (n : Nat) (ys : List Value) (w : World) (e : Ending) (w' : World) : Prop :=
  ∃ g' cap', e = .returned (.slice (some ⟨g', 0, none⟩) (n + 1) cap') ∧ w'.ownsRow B 27 4 (.slice (some ⟨g', 0, none⟩) (n + 1) cap') (n + 1) ys ∧ w.grownBy w' v.ownBlock ∧ (v.ownBlock = some g' ∨ w.heap.size ≤ g')
theorem insColumn_wp_copy {P : Program} (w : World) {ops : Array Oper} {rest : List Oper} {o : Oper} {a : Act} {Q : Exit → Act → World → Prop} (hgd : o.guard = none) (d s : Operand) (t t' : TypeId)
    (ho : o.op = .call { callee := .builtin .copy, args := #[d, s], argTypes := #[t, t'] }) (v u : Value) (hd : a.eval d = v) (hs : a.eval s = u) {v' : Value} {w' : World}
    (hr : (Builtin.copy_ #[t, t'] o.type #[v, u]).run P w = .ok v' w') (h : wpList P ops Q rest (a.put o.dst v') w') : wpList P ops Q (o :: rest) a w := by
  refine wpList_plain hgd fun _ hK => ?_
  unfold Oper.wp execOp
  simp only [ho, resolve, invoke, builtin, Sem.run_bind, Sem.run_pure, Result.andThen_ok, List.map_toArray, List.map_cons, List.map_nil, hd, hs, hr]
  exact hK _ _ h
theorem insColumn_step_copy {P : Program} {ops : Array Oper} {o : Oper} {a : Act} {w : World} {K : Act → World → Prop} {Q : Exit → Act → World → Prop} {E : Prop}
    (hg : o.guard = none) (d x : Operand) (dT sT : TypeId) (hop : o.op = Op.call { callee := Callee.builtin Builtin.copy, args := #[d, x], argTypes := #[dT, sT] })
    (v u : Value) (hd : a.eval d = v) (hx : a.eval x = u) {v' : Value} {w' : World} (hr : (Builtin.copy_ #[dT, sT] o.type #[v, u]).run P w = .ok v' w') (hK : K (a.put o.dst v') w') :
    if Region.wanted o (yielded ops a.tmps) = true then Oper.wp P o a w K Q else E := by
  have hw : Region.wanted o (yielded ops a.tmps) = true := by simp [Region.wanted, hg]
  rw [if_pos hw]
  unfold Oper.wp
  simp [execOp, hop, resolve, invoke, builtin, hd, hx, hr, Result.andThen]
  exact hK
theorem insColumn_run_copy {P : Program} (w : World) (dT sT ty elem : TypeId) (k b o dLen dCap : Nat) (a : Addr) (sLen sCap : Nat) (cs : List Value)
    (hu : P.underlying dT = some (.slice elem)) (hs : (P.info? elem).map (·.size) = some k) (hn : cs.length = Nat.min sLen dLen * k)
    (hsrc : ∀ j v, cs[j]? = some v → w.cell? (a.add j) = some v) (hc : ∀ j, j < cs.length → (w.cell? ⟨b, o + j, none⟩).isSome = true) (hf : ∀ j, j < cs.length → w.frozen? ⟨b, o + j, none⟩ = false) (h1 : ∀ v ∈ cs, v.oneCell' = true) :
    (Builtin.copy_ #[dT, sT] ty #[.slice (some ⟨b, o, none⟩) dLen dCap, .slice (some a) sLen sCap]).run P w = .ok (goInt (Nat.min sLen dLen)) (w.setCells b o cs) := by
  have hl := run_loadCells_list (P := P) w a cs hsrc
  have hst := run_storeCells_cells (P := P) b o cs 0 w (by simpa using hc) (by simpa using hf) h1
  simp only [Nat.add_zero] at hst
  cases hq : P.info? elem with
  | none => simp [hq] at hs
  | some i =>
    have hi : i.size = k := by simpa [hq] using hs
    simp [Builtin.copy_, run_underlying hu, Builtin.lenOf, Builtin.firstCells, sizeOf, typeInfo, hq, hi, ← hn, hl, hst]
set_option maxHeartbeats 8000000 in
set_option maxRecDepth 100000 in
theorem insColumn_end (B vb vc n : Nat) (v : Value) (xs vs : List Value) (w : World) (h : w.ownsRow B 27 4 v n xs) (hB : B ≤ w.heap.size) (hn : n ≤ 1000) (hvl : vs.length = 4) (h1v : ∀ u ∈ vs, u.oneCell' = true) (hvb : w.heap[vb]? = some (.cells vs.toArray 27 (0, 0))) :
    Calls Tryd.prog 56 #[v, .int .i64 (n : Int), .slice (some ⟨vb, 0, none⟩) 1 vc] w (InsColumnRet B v n (xs ++ vs) w) := by
  obtain ⟨i0, hi, hz0, hz1, hz2⟩ := info_parts infoInsColumn
  have HO := hide h
  have HN : Hid (∀ j u, vs[j]? = some u → w.cell? ((⟨vb, 0, none⟩ : Addr).add j) = some u) := World.news_of_block (cs := vs.toArray) hvb
  have HL := hide hvl
  have H1 := hide h1v
  obtain ⟨a, m, c, rfl, hc⟩ : ∃ a m c, v = .slice a m c ∧ n ≤ c ∧ m = n := by
    rcases h.2 with ⟨rfl, hn0⟩ | ⟨g, cap, cur, rfl, _, _, hn0, _⟩
    · exact ⟨none, 0, 0, rfl, by omega, by omega⟩
    · exact ⟨_, _, _, rfl, hn0, rfl⟩
  obtain ⟨hnc, rfl⟩ := hc
  clear h hvl h1v hvb
  go_enter Tryd.func56, Tryd.ntmps56
  cases a with
  | none =>
    have hm0 : m = 0 ∧ c = 0 := by
      rcases HO.out.2 with ⟨h, h2⟩ | ⟨g, cap, cur, h, _⟩
      · injection h with _ h3 h4; exact ⟨h3, h4⟩
      · cases h
    obtain ⟨rfl, rfl⟩ := hm0
    go_wp2_with (at_builtin; refine wpList_append_lies _ rfl (.tmp 23) (.tmp 24) 23 rfl B 27 i0 _ 4 40 Tryd.underlying23 hi hz0 hz1 hz2 rfl (by decide) _ _ _ rfl HO.out ⟨vb, 0, none⟩ 1 vc vs rfl (by rw [HL.out]) ?c1 ?h1 (by decide) ?h63 ?hb ?hbase _ rfl ?next)
    case c1 => exact HN.out
    case h1 => exact H1.out
    case h63 => unfold maxLen; omega
    case hb => omega
    case hbase => exact hB
    case next =>
      intro g1 cp1 w3 hown hgrow hat hlt3
      have R : Hid (InsColumnRet B (.slice none 0 0) 0 (xs ++ vs) w (.returned (.slice (some ⟨g1, 0, none⟩) (0 + 1) cp1)) w3) := ⟨g1, cp1, rfl, hown, hgrow, hat.imp id (fun h => Nat.le_of_eq h.symm)⟩
      clear hown hgrow hat
      go_wp2_with fail
      go_ret
      exact R.out
  | some a =>
    by_cases hcm : c = m
    · subst hcm
      go_wp2_with (at_builtin; refine wpList_append_lies _ rfl (.tmp 23) (.tmp 24) 23 rfl B 27 i0 _ 4 40 Tryd.underlying23 hi hz0 hz1 hz2 rfl (by decide) _ _ _ rfl HO.out ⟨vb, 0, none⟩ 1 vc vs rfl (by rw [HL.out]) ?c1 ?h1 (by decide) ?h63 ?hb ?hbase _ rfl ?next)
      case c1 => exact HN.out
      case h1 => exact H1.out
      case h63 => unfold maxLen; omega
      case hb => omega
      case hbase => exact hB
      case next =>
        intro g1 cp1 w3 hown hgrow hat hlt3
        have R : Hid (InsColumnRet B (.slice (some a) c c) c (xs ++ vs) w (.returned (.slice (some ⟨g1, 0, none⟩) (c + 1) cp1)) w3) := ⟨g1, cp1, rfl, hown, hgrow, hat.imp id (fun h => Nat.le_of_eq h.symm)⟩
        clear hown hgrow hat
        go_wp2_with fail
        go_ret
        exact R.out
    · have hcm' : ¬ (c = m) := hcm
      go_wp2_with (at_builtin; refine wpList_append_lies _ rfl (.tmp 23) (.tmp 24) 23 rfl B 27 i0 _ 4 40 Tryd.underlying23 hi hz0 hz1 hz2 rfl (by decide) _ _ _ rfl HO.out ⟨vb, 0, none⟩ 1 vc vs rfl (by rw [HL.out]) ?c1 ?h1 (by decide) ?h63 ?hb ?hbase _ rfl ?next)
      case c1 => exact HN.out
      case h1 => exact H1.out
      case h63 => unfold maxLen; omega
      case hb => omega
      case hbase => exact hB
      case next =>
        intro g1 cp1 w3 hown hgrow hat hlt3
        have R : Hid (InsColumnRet B (.slice (some a) m c) m (xs ++ vs) w (.returned (.slice (some ⟨g1, 0, none⟩) (m + 1) cp1)) w3) := ⟨g1, cp1, rfl, hown, hgrow, hat.imp id (fun h => Nat.le_of_eq h.symm)⟩
        clear hown hgrow hat
        go_wp2_with fail
        go_ret
        exact R.out
theorem insColumn_mid {i n : Nat} {xs vs : List Value} (hx : xs.length = n * 4) (hv : vs.length = 4) (hi : i ≤ n) : (xs.take (i * 4) ++ vs ++ xs.drop (i * 4)).length = (n + 1) * 4 ∧ ∀ j, (xs.take (i * 4) ++ vs ++ xs.drop (i * 4))[j]? = if j < i * 4 then xs[j]? else if j < (i + 1) * 4 then vs[j - i * 4]? else xs[j - 4]? := by
  have h1 : (xs.take (i * 4)).length = i * 4 := by rw [List.length_take]; omega
  refine ⟨by rw [List.length_append, List.length_append, h1, List.length_drop]; omega, fun j => ?_⟩
  by_cases c1 : j < i * 4
  · rw [if_pos c1, List.append_assoc, List.getElem?_append_left (by omega), List.getElem?_take, if_pos c1]
  · rw [if_neg c1]
    by_cases c2 : j < (i + 1) * 4
    · rw [if_pos c2, List.getElem?_append_left (by rw [List.length_append]; omega), List.getElem?_append_right (by omega), h1]
    · rw [if_neg c2, List.getElem?_append_right (by rw [List.length_append]; omega), List.length_append, h1, List.getElem?_drop]
      congr 1
      omega
set_option maxHeartbeats 16000000 in
set_option maxRecDepth 100000 in
theorem insColumn_room (B g vb vc n i cap : Nat) (xs vs : List Value) (w : World) (h : w.ownsRow B 27 4 (.slice (some ⟨g, 0, none⟩) n cap) n xs) (hn : n ≤ 1000) (hi : i < n) (hroom : n + 1 ≤ cap) (hvl : vs.length = 4) (h1c : ∀ u ∈ xs, u.oneCell' = true) (h1v : ∀ u ∈ vs, u.oneCell' = true) (hvb : w.heap[vb]? = some (.cells vs.toArray 27 (0, 0))) (hne : vb ≠ g) :
    Calls Tryd.prog 56 #[.slice (some ⟨g, 0, none⟩) n cap, .int .i64 (i : Int), .slice (some ⟨vb, 0, none⟩) 1 vc] w (InsColumnRet B (.slice (some ⟨g, 0, none⟩) n cap) n (xs.take (i * 4) ++ vs ++ xs.drop (i * 4)) w) := by
  obtain ⟨i0, hi0, hz0, hz1, hz2⟩ := info_parts infoInsColumn
  obtain ⟨cur, hcur, hcs, hcm, hnc, hB, hxl, hx⟩ := own_at h
  have hc63 : cap ≤ 9223372036854775807 := hcm
  have hsz : (Tryd.prog.info? 27).map (·.size) = some 4 := by rw [hi0]; simp [hz1]
  have hov : ∀ lb cb, (callFunc 90 #[.slice (some ⟨vb, 0, none⟩) 1 vc, .slice (some ⟨g, (i + 1) * 4, none⟩) lb cb]).run Tryd.prog w = .ok (.value (.bool false)) w := fun lb cb => by
    rw [run_callFunc_extern Tryd.func90 (by kernel_rfl) (by kernel_rfl) (by kernel_rfl) (e := Extern.SlicesOverlaps.overlaps #[23, 23] #[4]) (by kernel_rfl),
      Lib.run_overlaps_apart w 23 4 27 Tryd.underlying23 4 (fun w => by simp [sizeOf, typeInfo, hi0, hz1]) ⟨vb, 0, none⟩ ⟨g, (i + 1) * 4, none⟩ 1 vc lb cb hne 27 27 vs.toArray.size cur.size (by simp [World.shape?, hvb]) (by simp [World.shape?, hcur]) (by omega) (froz_block hvb 0) (froz_block hvb _)]
    rfl
  have hdl : (xs.drop (i * 4)).length = (n - i) * 4 := by rw [List.length_drop]; omega
  have hget : ∀ j v, xs[j]? = some v → w.cell? ⟨g, j, none⟩ = some v := fun j v hj => by
    rw [cell_block hcur, hx j (List.getElem?_eq_some_iff.1 hj).1]; exact hj
  have hthere : ∀ j, j < (n + 1) * 4 → (w.cell? ⟨g, j, none⟩).isSome = true := fun j hj => by
    rw [cell_block hcur, Array.getElem?_eq_getElem (by omega)]; rfl
  have hcp1 : ∀ ty dc sc, (Builtin.copy_ #[23, 23] ty #[.slice (some ⟨g, (i + 1) * 4, none⟩) (n - i) dc, .slice (some ⟨g, i * 4, none⟩) (n + 1 - i) sc]).run Tryd.prog w.drew = .ok (goInt (Nat.min (n + 1 - i) (n - i))) (w.drew.setCells g ((i + 1) * 4) (xs.drop (i * 4))) := fun ty dc sc =>
    insColumn_run_copy w.drew _ _ ty 27 4 g ((i + 1) * 4) (n - i) dc ⟨g, i * 4, none⟩ (n + 1 - i) sc (xs.drop (i * 4)) Tryd.underlying23 hsz (by rw [hdl]; congr 1; simp only [Nat.min_def]; split <;> omega)
      (fun j v hj => by rw [Addr.add_lit]; exact hget (i * 4 + j) v (by rwa [List.getElem?_drop] at hj))
      (fun j hj => hthere _ (by omega)) (fun j hj => froz_block (w := w.drew) hcur _) (fun v hv => h1c v (List.mem_of_mem_drop hv))
  obtain ⟨W1, hW1⟩ : ∃ W1, W1 = w.drew.setCells g ((i + 1) * 4) (xs.drop (i * 4)) := ⟨_, rfl⟩
  have hcur1 : W1.heap[g]? = some (.cells (putC cur ((i + 1) * 4) (xs.drop (i * 4))) 27 (0, 0)) := by rw [hW1]; exact heap_setCells _ _ (w := w.drew) hcur
  have hg1 : w.grownBy W1 (some g) := by rw [hW1]; exact grown_setCells g _ _ (grown_below (Below.refl _ _).drew _)
  have hvb1 : W1.heap[vb]? = some (.cells vs.toArray 27 (0, 0)) := blk_by hg1 hvb hne
  rw [← hW1] at hcp1
  have hcp2 : ∀ ty dc, (Builtin.copy_ #[23, 23] ty #[.slice (some ⟨g, i * 4, none⟩) (n + 1 - i) dc, .slice (some ⟨vb, 0, none⟩) 1 vc]).run Tryd.prog W1 = .ok (goInt (Nat.min 1 (n + 1 - i))) (W1.setCells g (i * 4) vs) := fun ty dc =>
    insColumn_run_copy W1 _ _ ty 27 4 g (i * 4) (n + 1 - i) dc ⟨vb, 0, none⟩ 1 vc vs Tryd.underlying23 hsz (by rw [hvl, show Nat.min 1 (n + 1 - i) = 1 by simp only [Nat.min_def]; split <;> omega])
      (fun j v hj => World.news_of_block (cs := vs.toArray) hvb1 j v hj)
      (fun j hj => by rw [cell_block hcur1, Array.getElem?_eq_getElem (by rw [putC_size]; omega)]; rfl) (fun j hj => froz_block hcur1 _) h1v
  have hcur2 := heap_setCells vs (i * 4) hcur1
  obtain ⟨ml, mg⟩ := insColumn_mid (i := i) (n := n) hxl hvl (by omega)
  have FIN : Hid (InsColumnRet B (.slice (some ⟨g, 0, none⟩) n cap) n (xs.take (i * 4) ++ vs ++ xs.drop (i * 4)) w (.returned (.slice (some ⟨g, 0, none⟩) (n + 1) cap)) (W1.setCells g (i * 4) vs)) := by
    refine ⟨g, cap, rfl, ?_, grown_setCells g _ _ hg1, .inl rfl⟩
    refine own_of hB hcur2 (by rw [putC_size, putC_size]; exact hcs) hcm hroom ml fun j hj => ?_
    rw [mg]
    by_cases c1 : j < i * 4
    · rw [if_pos c1, putC_out _ _ _ _ (by omega), putC_out _ _ _ _ (by omega)]; exact hx j (by omega)
    · rw [if_neg c1]
      by_cases c2 : j < (i + 1) * 4
      · rw [if_pos c2, putC_at (by rw [putC_size]; omega) (by omega) (by omega)]
      · rw [if_neg c2, putC_out _ _ _ _ (by omega), putC_at (by omega) (by omega) (by omega), List.getElem?_drop]
        congr 1
        omega
  have hz2 : ¬ ((i : Int) = (n : Int)) := by omega
  have hb1 : (0 : Int) ≤ (i : Int) + 1 := by omega
  have hb2 : ¬ (cap = i + 1) := by omega
  have hb3 : (i : Int) + 1 ≤ (n : Int) + 1 := by omega
  have hb5 : (i : Int) ≤ (n : Int) + 1 := by omega
  have hb4 : ¬ (cap = i) := by omega
  have hin : i ≤ n := by omega
  have hz3 : ¬ ((cap : Int) < (n : Int) + 1) := by omega
  have hw1 : IntKind.i64.wrap ((i : Int) + 1) = (i : Int) + 1 := IntWalk.i64_in _ (by omega)
  have htn : ((i : Int) + 1).toNat = i + 1 := by omega
  clear hdl hget hthere hW1 hcur1 hg1 hvb1 hcur2 ml mg hx hxl hcs hcm hcur hvb h h1c h1v hvl
  go_enter Tryd.func56, Tryd.ntmps56
  go_wp2_with (simp only [hov])
  go_region_law (refine insColumn_step_copy rfl _ _ 23 23 rfl _ _ (by simp [Act.eval, Act.put]) (by simp [Act.eval, Act.put]) (hcp1 _ _ _) ?_)
  go_wp2_with (at_builtin; refine insColumn_wp_copy _ rfl _ _ 23 23 rfl _ _ rfl rfl (hcp2 _ _) ?_)
  go_ret
  exact FIN.out
set_option maxHeartbeats 16000000 in
set_option maxRecDepth 100000 in
theorem insColumn_grow (B g vb vc n i cap : Nat) (xs vs : List Value) (w : World) (h : w.ownsRow B 27 4 (.slice (some ⟨g, 0, none⟩) n cap) n xs) (hBw : B ≤ w.heap.size) (hn : n ≤ 1000) (hi : i < n) (hroom : cap < n + 1) (hvl : vs.length = 4) (h1c : ∀ u ∈ xs, u.oneCell' = true) (h1v : ∀ u ∈ vs, u.oneCell' = true) (hvb : w.heap[vb]? = some (.cells vs.toArray 27 (0, 0))) (hne : vb ≠ g) :
    Calls Tryd.prog 56 #[.slice (some ⟨g, 0, none⟩) n cap, .int .i64 (i : Int), .slice (some ⟨vb, 0, none⟩) 1 vc] w (InsColumnRet B (.slice (some ⟨g, 0, none⟩) n cap) n (xs.take (i * 4) ++ vs ++ xs.drop (i * 4)) w) := by
  obtain ⟨i0, hi0, hz0, hz1, hz2⟩ := info_parts infoInsColumn
  obtain ⟨cur, hcur, hcs, hcm, hnc, hB, hxl, hx⟩ := own_at h
  obtain rfl : cap = n := by omega
  have hsz : (Tryd.prog.info? 27).map (·.size) = some 4 := by rw [hi0]; simp [hz1]
  have hdl : (xs.drop (i * 4)).length = (cap - i) * 4 := by rw [List.length_drop]; omega
  have hgw : g < w.heap.size := lt_block hcur
  have hvw : vb < w.heap.size := lt_block hvb
  have hget : ∀ j v, xs[j]? = some v → w.cell? ⟨g, j, none⟩ = some v := fun j v hj => by
    rw [cell_block hcur, hx j (List.getElem?_eq_some_iff.1 hj).1]; exact hj
  have hkk : (cap : Int) + 1 - (i : Int) = ((cap + 1 - i : Nat) : Int) := by omega
  have hik : i + (cap + 1 - i) = cap + 1 := by omega
  have hold : (Builtin.firstCells i0.size i (.slice (some ⟨g, 0, none⟩) i cap)).run Tryd.prog w.drew = .ok (xs.take (i * 4)).toArray w.drew := by
    rw [hz1]
    exact run_firstCells_some w.drew 4 i ⟨g, 0, none⟩ i cap (xs.take (i * 4)) (by rw [List.length_take]; omega) (fun j v hj => by
      rw [Addr.add_lit, Nat.zero_add]
      rw [List.getElem?_take] at hj
      split at hj
      · exact hget j v hj
      · cases hj)
  obtain ⟨G, hG⟩ : ∃ G, G = grownCap w (cap + 1) cap 27 := ⟨_, rfl⟩
  obtain ⟨ROW, hROW⟩ : ∃ ROW : Array Value, ROW = (xs.take (i * 4)).toArray ++ Builtin.zeroCells (Value.agg #[.int .i64 0, .int .i64 0, .int .i64 0, .string ⟨#[]⟩]).cells (cap + 1 - i) ++ Builtin.zeroCells (Value.agg #[.int .i64 0, .int .i64 0, .int .i64 0, .string ⟨#[]⟩]).cells (G - (cap + 1)) := ⟨_, rfl⟩
  have hrz : ∀ ty, (Builtin.append_ #[23, 3] ty #[.slice (some ⟨g, 0, none⟩) i cap, .int .i64 ((cap : Int) + 1 - (i : Int))]).run Tryd.prog w = .ok (.slice (some ⟨w.heap.size, 0, none⟩) (cap + 1) G) (w.drew.alloc (.cells ROW 27)) := fun ty => by
    have h := Lib.run_append_grow_zeros w 23 3 ty 27 i0 _ .i64 .i64 Tryd.underlying23 Tryd.underlying3 hi0 hz0 (some ⟨g, 0, none⟩) i cap (xs.take (i * 4)) hold (cap + 1 - i) (by omega) (by omega) (by omega) (by omega) (by rw [hz2]; omega) (by rw [hz2, hik]; exact growslice_fits hroom (by omega))
    rw [hik] at h
    rw [hkk, hROW, hG]
    exact h
  have hGn : cap + 1 ≤ G := by rw [hG]; exact grownCap_ge w _ _ _
  have hGm : G ≤ maxLen := by rw [hG]; exact grownCap_le_maxLen w (cap + 1) cap 27 (by unfold maxLen; omega)
  have hG63 : G ≤ 9223372036854775807 := hGm
  have hRl : ROW.size = G * 4 := by
    rw [hROW]
    have htl : (xs.take (i * 4)).length = i * 4 := by rw [List.length_take]; omega
    rw [Array.size_append, Array.size_append, size_zeroCells, size_zeroCells]
    simp only [List.size_toArray, htl, Value.cells]
    simp
    omega
  have hR1 : ∀ j, j < i * 4 → ROW[j]? = xs[j]? := fun j hj => by
    have htl : (xs.take (i * 4)).length = i * 4 := by rw [List.length_take]; omega
    rw [hROW, Array.append_assoc, Array.getElem?_append_left (by simp only [List.size_toArray, htl]; exact hj), List.getElem?_toArray, List.getElem?_take, if_pos hj]
  clear hG hROW
  obtain ⟨W1, hW1⟩ : ∃ W1, W1 = w.drew.alloc (.cells ROW 27) := ⟨_, rfl⟩
  have hbW : Below w.heap.size w W1 := by rw [hW1]; exact (Below.refl _ _).drew.alloc (Nat.le_refl _) _
  have hN : W1.heap[w.heap.size]? = some (.cells ROW 27 (0, 0)) := by rw [hW1]; exact blk_alloc w.drew _
  have hvb1 := blk_own hbW hvb
  have hcur1 := blk_own hbW hcur
  rw [← hW1] at hrz
  have hcpA : ∀ ty dc, (Builtin.copy_ #[23, 23] ty #[.slice (some ⟨w.heap.size, i * 4, none⟩) (cap + 1 - i) dc, .slice (some ⟨vb, 0, none⟩) 1 vc]).run Tryd.prog W1 = .ok (goInt (Nat.min 1 (cap + 1 - i))) (W1.setCells w.heap.size (i * 4) vs) := fun ty dc =>
    insColumn_run_copy W1 _ _ ty 27 4 w.heap.size (i * 4) (cap + 1 - i) dc ⟨vb, 0, none⟩ 1 vc vs Tryd.underlying23 hsz (by rw [hvl, show Nat.min 1 (cap + 1 - i) = 1 by simp only [Nat.min_def]; split <;> omega])
      (fun j v hj => World.news_of_block (cs := vs.toArray) hvb1 j v hj)
      (fun j hj => by rw [cell_block hN, Array.getElem?_eq_getElem (by omega)]; rfl) (fun j hj => froz_block hN _) h1v
  obtain ⟨W2, hW2⟩ : ∃ W2, W2 = W1.setCells w.heap.size (i * 4) vs := ⟨_, rfl⟩
  have hg2 : W1.grownBy W2 (some w.heap.size) := by rw [hW2]; exact grown_setCells _ _ _ (grown_below (Below.refl _ _) _)
  have hN2 : W2.heap[w.heap.size]? = some (.cells (putC ROW (i * 4) vs) 27 (0, 0)) := by rw [hW2]; exact heap_setCells _ _ hN
  have hcur2 := blk_by hg2 hcur1 (by omega)
  rw [← hW2] at hcpA
  have hcpB : ∀ ty dc sc, (Builtin.copy_ #[23, 23] ty #[.slice (some ⟨w.heap.size, (i + 1) * 4, none⟩) (cap - i) dc, .slice (some ⟨g, i * 4, none⟩) (cap - i) sc]).run Tryd.prog W2.drew = .ok (goInt (Nat.min (cap - i) (cap - i))) (W2.drew.setCells w.heap.size ((i + 1) * 4) (xs.drop (i * 4))) := fun ty dc sc =>
    insColumn_run_copy W2.drew _ _ ty 27 4 w.heap.size ((i + 1) * 4) (cap - i) dc ⟨g, i * 4, none⟩ (cap - i) sc (xs.drop (i * 4)) Tryd.underlying23 hsz (by rw [hdl]; congr 1; simp only [Nat.min_def]; split <;> omega)
      (fun j v hj => by
        rw [Addr.add_lit, cell_block (w := W2.drew) hcur2, hx _ (by have := (List.getElem?_eq_some_iff.1 hj).1; omega)]
        rwa [List.getElem?_drop] at hj)
      (fun j hj => by rw [cell_block (w := W2.drew) hN2, Array.getElem?_eq_getElem (by rw [putC_size]; omega)]; rfl) (fun j hj => froz_block (w := W2.drew) hN2 _) (fun v hv => h1c v (List.mem_of_mem_drop hv))
  have hN3 := heap_setCells (xs.drop (i * 4)) ((i + 1) * 4) (w := W2.drew) hN2
  obtain ⟨ml, mg⟩ := insColumn_mid (i := i) (n := cap) hxl hvl (by omega)
  have FIN : Hid (InsColumnRet B (.slice (some ⟨g, 0, none⟩) cap cap) cap (xs.take (i * 4) ++ vs ++ xs.drop (i * 4)) w (.returned (.slice (some ⟨w.heap.size, 0, none⟩) (cap + 1) G)) (W2.drew.setCells w.heap.size ((i + 1) * 4) (xs.drop (i * 4)))) := by
    refine ⟨w.heap.size, G, rfl, ?_, ?_, .inr (Nat.le_refl _)⟩
    · refine own_of hBw hN3 (by rw [putC_size, putC_size]; exact hRl) hGm hGn ml fun j hj => ?_
      rw [mg]
      by_cases c1 : j < i * 4
      · rw [if_pos c1, putC_out _ _ _ _ (by omega), putC_out _ _ _ _ (by omega)]; exact hR1 j c1
      · rw [if_neg c1]
        by_cases c2 : j < (i + 1) * 4
        · rw [if_pos c2, putC_out _ _ _ _ (by omega), putC_at (by omega) (by omega) (by omega)]
        · rw [if_neg c2, putC_at (by rw [putC_size]; omega) (by omega) (by omega), List.getElem?_drop]
          congr 1
          omega
    · have h1 : Below w.heap.size w W2 := hbW.grown hg2 (by have := hbW.size; omega) (fun k hk => by cases hk; exact Nat.le_refl _)
      have h2 : W2.grownBy (W2.drew.setCells w.heap.size ((i + 1) * 4) (xs.drop (i * 4))) (some w.heap.size) := grown_setCells _ _ _ (grown_below (Below.refl _ _).drew _)
      exact grown_below (h1.grown h2 (by have := h1.size; omega) (fun k hk => by cases hk; exact Nat.le_refl _)) _
  have hz2 : ¬ ((i : Int) = (cap : Int)) := by omega
  have hz3 : (cap : Int) < (cap : Int) + 1 := by omega
  have hGi : ¬ (G = i) := by omega
  have hGim : ¬ (G = i + 1) := by omega
  have hci : ¬ (cap = i) := by omega
  have hin : i ≤ cap := by omega
  have hb1 : (0 : Int) ≤ (i : Int) + 1 := by omega
  have hb3 : (i : Int) + 1 ≤ (cap : Int) + 1 := by omega
  have hb5 : (i : Int) ≤ (cap : Int) + 1 := by omega
  have hw1 : IntKind.i64.wrap ((i : Int) + 1) = (i : Int) + 1 := IntWalk.i64_in _ (by omega)
  have htn : ((i : Int) + 1).toNat = i + 1 := by omega
  clear hW1 hW2 hdl hget hkk hik hold hRl hR1 hbW hN hvb1 hcur1 hg2 hN2 hcur2 hN3 ml mg hx hxl hcs hcm hcur hvb h h1c h1v hvl hGm
  go_enter Tryd.func56, Tryd.ntmps56
  go_wp2_with (first
    | (at_builtin; refine Lib.wpList_append_run _ rfl _ _ _ _ rfl _ _ rfl rfl _ _ (hrz _) ?_)
    | (at_builtin; refine insColumn_wp_copy _ rfl _ _ 23 23 rfl _ _ rfl rfl (hcpA _ _) ?_))
  go_region_law (refine insColumn_step_copy rfl _ _ 23 23 rfl _ _ (by simp [Act.eval, Act.put]) (by simp [Act.eval, Act.put]) (hcpB _ _ _) ?_)
  go_wp2_with fail
  go_ret
  exact FIN.out
/-- slices.Insert of one element at any place of a row that the call owns -/
theorem insColumn_any (B vb vc n i : Nat) (v : Value) (xs vs : List Value) (w : World) (h : w.ownsRow B 27 4 v n xs) (hB : B ≤ w.heap.size) (hn : n ≤ 1000) (hi : i ≤ n) (hvl : vs.length = 4) (h1c : ∀ u ∈ xs, u.oneCell' = true) (h1v : ∀ u ∈ vs, u.oneCell' = true) (hvb : w.heap[vb]? = some (.cells vs.toArray 27 (0, 0))) (hne : v.ownBlock ≠ some vb) :
    Calls Tryd.prog 56 #[v, .int .i64 (i : Int), .slice (some ⟨vb, 0, none⟩) 1 vc] w (InsColumnRet B v n (xs.take (i * 4) ++ vs ++ xs.drop (i * 4)) w) := by
  by_cases hin : i = n
  · subst hin
    have hl := h.1
    rw [List.take_of_length_le (by omega), List.drop_of_length_le (by omega), List.append_nil]
    exact insColumn_end B vb vc i v xs vs w h hB hn hvl h1v hvb
  · rcases h.2 with ⟨rfl, h0⟩ | ⟨g, cap, cur, rfl, -, -, hnc, -⟩
    · omega
    · have hne' : vb ≠ g := fun e => hne (by rw [e]; rfl)
      by_cases hr : n + 1 ≤ cap
      · exact insColumn_room B g vb vc n i cap xs vs w h hn (by omega) hr hvl h1c h1v hvb hne'
      · exact insColumn_grow B g vb vc n i cap xs vs w h hB hn (by omega) (by omega) hvl h1c h1v hvb hne'
end Go.Proofs.YtdijcdadcbhipaaDoor
