/-
  slices.SortFunc at items, on a row that the call owns.
-/
import Derived.Test.YtopdheombgajlaaSortLay
import Derived.Test.YtopdheombgajlaaInsI
import Derived.Lib.RowBridge
set_option linter.all false
namespace Go.Proofs.Ytopdheombgajlaa
open Go.RowKit Go.Sort
instance : Inhabited Itm := ⟨⟨0, 0⟩⟩
def encI (e : Itm) : List Value := [.int .i64 e.k, .int .i64 e.r]
theorem itmCells_enc (l : List Itm) : itmCells l = l.flatMap encI := rfl
theorem grow_2 (w : World) (A B C : Obj) : (((w.alloc A).alloc B).drew).alloc C = grow (w.drewN 1) #[A, B, C] := by
  have h : (((w.alloc A).alloc B).drew).alloc C = grow (grow (w.drewN 1) (#[A] ++ #[B])) #[C] := by
    rw [alloc_eq_grow, alloc_eq_grow, alloc_eq_grow, grow_grow]; rfl
  rw [h, grow_grow]; rfl
theorem grow_3 (w : World) (A B C : Obj) : (((w.alloc A).alloc B).alloc C).drew = grow (w.drewN 1) #[A, B, C] := by
  rw [alloc_eq_grow, alloc_eq_grow, alloc_eq_grow, grow_grow, grow_grow]; rfl
set_option maxHeartbeats 4000000 in
theorem compareItems_grow (a b : Itm) (w : World) :
    Calls Try.prog 26 #[.agg #[.int .i64 a.k, .int .i64 a.r], .agg #[.int .i64 b.k, .int .i64 b.r]] w fun x w' => x = .returned (.int .i64 (cmpI a b)) ∧ ∃ q os, w' = grow (w.drewN q) os := by
  obtain ⟨R, hR⟩ : ∃ R, R = cmpI a b := ⟨_, rfl⟩
  rw [← hR]
  have HR := hide hR
  clear hR
  go_enter Try.func26, Try.ntmps26
  go_wp2_with fail
  generalize hA : (.cells #[.int .i64 a.k, .int .i64 a.r] 29 : Obj) = OA
  generalize hB : (.cells #[.int .i64 b.k, .int .i64 b.r] 29 : Obj) = OB
  have hBA : Hid (((w.alloc OA).alloc OB).heap[w.heap.size]? = some (.cells #[.int .i64 a.k, .int .i64 a.r] 29 (0, 0))) := by rw [← hA]; exact blk_keep (blk_alloc w _) _
  have hBB : Hid (((w.alloc OA).alloc OB).heap[w.heap.size + 1]? = some (.cells #[.int .i64 b.k, .int .i64 b.r] 29 (0, 0))) := by rw [← hB]; exact blk_at (by simp) _
  have G1 := hide (fun C => grow_2 w OA OB C)
  have G2 := hide (fun C => grow_3 w OA OB C)
  generalize (w.alloc OA).alloc OB = W at *
  clear hA hB
  have S0 := hide (And.intro (cell_block hBA.out 0) (And.intro (cell_block hBA.out 1) (And.intro (cell_block hBB.out 0) (cell_block hBB.out 1))))
  have S1 := hide (fun o => And.intro (cell_block (blk_keep hBA.out o) 0) (And.intro (cell_block (blk_keep hBA.out o) 1) (And.intro (cell_block (blk_keep hBB.out o) 0) (cell_block (blk_keep hBB.out o) 1))))
  go_region_held3 (fun w' => w'.cell? ⟨w.heap.size, 0, none⟩ = some (.int .i64 a.k) ∧ w'.cell? ⟨w.heap.size, 1, none⟩ = some (.int .i64 a.r) ∧ w'.cell? ⟨w.heap.size + 1, 0, none⟩ = some (.int .i64 b.k) ∧ w'.cell? ⟨w.heap.size + 1, 1, none⟩ = some (.int .i64 b.r)) (first | exact S0.out | exact S1.out _) (first
    | (go_at_call 33; refine (compare_any _ _ _).mono ?_; rintro e w1 ⟨rfl, rfl⟩)
    | (go_at_call 32; refine (or_any _ 2 (cmpZ a.k b.k) (cmpZ a.r b.r) _ (by first | exact cell_block (blk_alloc W.drew _) 0 | exact cell_block (blk_drew0 (blk_alloc W _)) 0) (by first | exact cell_block (blk_alloc W.drew _) 1 | exact cell_block (blk_drew0 (blk_alloc W _)) 1)).mono ?_; rintro e w1 ⟨rfl, rfl⟩))
  all_goals
    go_wp2_with fail
    go_ret
    exact ⟨ret_int (by rw [HR.out]; rfl), 1, _, by first | exact G1.out _ | exact G2.out _⟩
theorem swoI : SWO (ltOf cmpI) where
  irrefl x := by unfold ltOf; rw [decide_eq_false]; rw [cmpI_neg]; exact lessP_irrefl x
  trans x y z h1 h2 := by
    unfold ltOf at *
    rw [decide_eq_true_eq, cmpI_neg] at *
    exact lessP_trans h1 h2
  ntrans x y z h1 h2 := by
    unfold ltOf at *
    rw [decide_eq_false_iff_not, cmpI_neg] at *
    intro h3
    by_cases c : lessP y x
    · exact h2 (lessP_trans c h3)
    · have := lessP_total h1 c; subst this; exact h2 h3
theorem flat_cells (d : Array Itm) : (flatK encI 2 d).toList = itmCells d.toList := by
  apply List.ext_getElem?
  intro t
  by_cases ht : t < d.size * 2
  · rw [Array.getElem?_toList, Array.getElem?_eq_getElem (by rw [size_flatK]; exact ht), ← getElem!_pos (flatK encI 2 d) t (by rw [size_flatK]; exact ht), get_flatK encI 2 d t ht]
    obtain ⟨i, hi⟩ : ∃ i, t = i * 2 ∨ t = i * 2 + 1 := ⟨t / 2, by omega⟩
    have hid : i < d.size := by omega
    obtain ⟨e0, e1⟩ := itmCells_at d.toList i (by rw [Array.length_toList]; exact hid)
    rcases hi with rfl | rfl
    · rw [show i * 2 / 2 = i by omega, show i * 2 % 2 = 0 by omega, e0, getElem!_pos d i hid]; rfl
    · rw [show (i * 2 + 1) / 2 = i by omega, show (i * 2 + 1) % 2 = 1 by omega, e1, getElem!_pos d i hid]; rfl
  · rw [Array.getElem?_toList, Array.getElem?_eq_none (by rw [size_flatK]; omega), List.getElem?_eq_none (by rw [itmCells_len, Array.length_toList]; omega)]
theorem heap_grow {w : World} {os : Array Obj} {b : Nat} {o : Obj} (h : w.heap[b]? = some o) : (grow w os).heap[b]? = some o := by
  show (w.heap ++ os)[b]? = _
  rw [Array.getElem?_append_left (lt_block h)]; exact h
theorem grown_grow (w : World) (os : Array Obj) (row : Option Nat) : w.grownBy (grow w os) row :=
  ⟨rfl, rfl, rfl, by show w.heap.size ≤ (w.heap ++ os).size; simp, fun i hi _ => by show (w.heap ++ os)[i]? = _; rw [Array.getElem?_append_left hi]⟩
def SortRet (B : Nat) (v : Value) (l : List Itm) (w : World) (e : Ending) (w' : World) : Prop :=
  e = .returned (.tuple #[]) ∧ ∃ r : List Itm, r.Perm l ∧ r.Pairwise (fun a b => ¬ lessP b a) ∧ OwnI B w' v r ∧ w.grownBy w' v.ownBlock
set_option maxHeartbeats 4000000 in
theorem sortFunc_any (B : Nat) (v : Value) (l : List Itm) (w : World) (h : OwnI B w v l) (hn : l.length ≤ 1000) :
    Calls Try.prog 25 #[v, .func (.func 26) #[] #[]] w (SortRet B v l w) := by
  rcases h.2 with ⟨rfl, h0⟩ | ⟨g, cap, cur, rfl, -⟩
  · have hl : l = [] := List.length_eq_zero_iff.1 h0
    subst hl
    have h' := AnyF.slices_SortFunc_none sortI none 0 (.func (.func 26) #[] #[]) w
    change Calls Try.prog 25 _ _ _ at h'
    refine h'.mono ?_
    rintro e w' ⟨rfl, rfl⟩
    exact ⟨rfl, [], List.Perm.refl _, List.Pairwise.nil, h, grown_below (Below.refl _ _) _⟩
  · obtain ⟨cur, hcur, hcs, hcm, hnc, hB, hxl, hx⟩ := own_at h
    have hsz : (l.toArray).size = l.length := by simp
    have hH : HoldsK encI 2 w g 0 l.toArray := by
      intro j hj
      rw [size_flatK, hsz] at hj
      have h1 : (flatK encI 2 l.toArray)[j]? = (itmCells l)[j]? := by rw [← Array.getElem?_toList, flat_cells]
      refine ⟨?_, by rw [Nat.zero_add]; exact froz_block hcur j⟩
      rw [Nat.zero_add, cell_block hcur, hx j (by rw [itmCells_len]; omega), ← h1, getElem!_pos _ j (by rw [size_flatK, hsz]; exact hj), Array.getElem?_eq_getElem (by rw [size_flatK, hsz]; exact hj)]
      rfl
    have h' := AnyQ.slices_SortFunc sortI 2 Try.isAgg29 Try.sizeOf29 encI (fun _ => rfl) (fun x v hv => by simp [encI] at hv; rcases hv with rfl | rfl <;> rfl) cmpI swoI 26 #[] g 0 cap l.toArray w
      (enters_of Try.func26 (by kernel_rfl) rfl) (fun m os dk _ x y => compareItems_grow x y _) hH (lt_block hcur) (by rw [hsz]; omega)
    change Calls Try.prog 25 _ _ _ at h'
    rw [hsz] at h'
    refine h'.mono ?_
    rintro e w' ⟨rfl, d', n, os, hp, hs, rfl⟩
    obtain ⟨hp1, -, hp3⟩ := hp
    rw [hsz] at hp1
    have hd' : d'.extract 0 l.length = d' := by rw [← hp1]; simp
    have hl' : l.toArray.extract 0 l.length = l.toArray := by rw [← hsz]; simp
    rw [hd', hl'] at hp3
    have hw : sortWorldK encI 2 w g 0 n d' os = grow ((w.drewN n).setCells g 0 (itmCells d'.toList)) os := by
      have hb := Go.Lib.putRow_eq_setCells id w g 0 (flatK encI 2 l.toArray) (flatK encI 2 d').toList n hH (by rw [Array.length_toList, size_flatK, size_flatK, hp1, hsz])
      rw [List.map_id, flat_cells, ← flat_cells, Array.toArray_toList] at hb
      unfold sortWorldK putRowK
      rw [hb, flat_cells]
    rw [hw]
    have hlen : d'.toList.length = l.length := by rw [Array.length_toList, hp1]
    have hcur' : ((w.drewN n).setCells g 0 (itmCells d'.toList)).heap[g]? = some (.cells (putC cur 0 (itmCells d'.toList)) 29 (0, 0)) := heap_setCells _ _ (w := w.drewN n) hcur
    refine ⟨rfl, d'.toList, by simpa using hp3, ?_, ?_, ?_⟩
    · rw [List.pairwise_iff_getElem]
      intro i j hi hj hij hq
      have h3 := hs i j (Nat.zero_le _) hij (by rw [← hlen]; exact hj)
      rw [Array.length_toList] at hi hj
      rw [getElem!_pos d' j hj, getElem!_pos d' i hi] at h3
      unfold ltOf at h3
      rw [decide_eq_false_iff_not, cmpI_neg] at h3
      exact h3 hq
    · unfold OwnI
      rw [hlen]
      refine own_of hB (heap_grow hcur') (by rw [putC_size]; exact hcs) hcm hnc (by rw [itmCells_len, hlen]) fun j hj => ?_
      have hj' := hj
      rw [itmCells_len, hlen] at hj'
      rw [putC_at (by rw [itmCells_len, hlen]; omega) (Nat.zero_le _) (by omega), Nat.sub_zero]
    · exact grown_trans (grown_setCells g _ _ (w := w.drewN n) ⟨rfl, rfl, rfl, Nat.le_refl _, fun _ _ _ => rfl⟩) (grown_grow _ _ _)
/-- where nothing is twice, the sorted row is the one that ordered makes -/
theorem sort_eq {l r : List Itm} (hp : r.Perm l) (hs : r.Pairwise (fun a b => ¬ lessP b a)) (hd : l.Nodup) : r = ordL l := by
  have hr : r.Nodup := hp.nodup_iff.2 hd
  refine srt_ext ?_ (ordL_spec l).1 fun x => by rw [(ordL_spec l).2, hp.mem_iff]
  have := List.Pairwise.and hs hr
  exact this.imp fun {a b} ⟨h1, h2⟩ => by
    by_cases c : lessP a b
    · exact c
    · exact absurd (lessP_total c h1) h2
end Go.Proofs.Ytopdheombgajlaa
