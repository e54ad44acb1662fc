/-
  equalLeaves, equalTree and holds of the laws.
-/
import Derived.Test.YtmlphdniiiijpaaTreeG5
import Derived.Test.YtmlphdniiiijpaaEqIM
set_option linter.all false
namespace Go.Proofs.Ytmlphdniiiijpaa
open Go.RowKit
set_option maxHeartbeats 8000000 in
theorem lholds_any (v : Value) (l : List Itm) (x : Itm) (w : World) (h : Itms w v l) :
    Calls Try.prog 28 #[v, .agg #[.int .i64 x.k, .int .i64 x.r]] w fun e w' => e = .returned (.bool (hasI l x)) ∧ Below w.heap.size w w' := by
  obtain ⟨a, cap, rfl, hl, hcap, hd⟩ := h
  obtain ⟨R, hR⟩ : ∃ R, R = hasI l x := ⟨_, rfl⟩
  rw [← hR]
  have HR := hide hR
  clear hR
  go_enter Try.func28, Try.ntmps28
  go_wp2_with fail
  go_loopg [5] l.length (fun gk sb wr => Below w.heap.size w wr ∧ wr.heap[w.heap.size]? = some (.cells #[.int .i64 x.k, .int .i64 x.r] 38 (0, 0)) ∧ ∃ k : Nat, k + gk = l.length ∧ sb = .int .i64 (k : Int) ∧ hasI (l.take k) x = false)
  case atStart => exact ⟨below_box _ _, blk_alloc w _, 0, by omega, rfl, rfl⟩
  case round =>
    obtain ⟨hbw, hbx, k, hk, rfl, hno⟩ := hrel
    have HW := hide hbw
    have HX := hide hbx
    have HNO := hide hno
    have hbs : w.heap.size < wr.heap.size := lt_block hbx
    clear hbx hno
    by_cases hlt : k < l.length
    · obtain ⟨b, off, rfl, hbb, hcell⟩ := hd.resolve_left (by rintro rfl; simp at hlt)
      have E := hide ((hcell k hlt).keep hbw)
      have hbl := Nat.lt_of_lt_of_le hbb hbw.size
      have HT := hide (hasI_take (x := x) hlt)
      have HME := hide (fun h => hasI_mem (x := x) hlt h)
      clear hcell hd hbw
      generalize l[k] = y at *
      have g0 := fun z : BW wr => bw_cell (p := ⟨b, off + k * 2, none⟩) hbl E.out.1 z
      have g1 := fun z : BW wr => bw_cell (p := ⟨b, off + k * 2 + 1, none⟩) hbl E.out.2 z
      have g2 := fun z : BW wr => bw_cell (p := ⟨w.heap.size, 0, none⟩) hbs (cell_block HX.out 0) z
      have g3 := fun z : BW wr => bw_cell (p := ⟨w.heap.size, 1, none⟩) hbs (cell_block HX.out 1) z
      have hgd := guard_itm .eql y x
      cases hq : (y.k == x.k && y.r == x.r) with
      | true =>
        have heq : ∀ z, (binOp .eql 38 (.agg #[.int .i64 y.k, .int .i64 y.r]) (.agg #[.int .i64 x.k, .int .i64 x.r])).run Try.prog z = .ok (.bool true) z := fun z => by rw [eql_itm, hq]
        have HF : Hid (R = true) := HR.out.trans (HME.out hq)
        clear hq HT HME
        go_wp2_with fail
        refine wp_region_bw (by kernel_rfl) (by kernel_rfl) ?_
        repeat (go_big_quiet_step (fail))
        refine wpQuiet_nil ?_
        rintro _ ⟨z, rfl⟩
        have H1 : Hid (Below w.heap.size w z.v) := HW.out.trans (z.h.mono HW.out.size)
        clear g0 g1 g2 g3 heq hgd
        go_wp2_with fail
        go_ret
        exact ⟨ret_bool HF.out.symm, H1.out⟩
      | false =>
        have heq : ∀ z, (binOp .eql 38 (.agg #[.int .i64 y.k, .int .i64 y.r]) (.agg #[.int .i64 x.k, .int .i64 x.r])).run Try.prog z = .ok (.bool false) z := fun z => by rw [eql_itm, hq]
        have HN1 : Hid (hasI (l.take (k + 1)) x = false) := by unfold Hid; rw [HT.out, HNO.out, hq]; rfl
        clear hq HT HME
        go_wp2_with fail
        refine wp_region_bw (by kernel_rfl) (by kernel_rfl) ?_
        repeat (go_big_quiet_step (fail))
        refine wpQuiet_nil ?_
        rintro _ ⟨z, rfl⟩
        have H1 : Hid (Below w.heap.size w z.v) := HW.out.trans (z.h.mono HW.out.size)
        have HX1 := hide (bw_blk HX.out z)
        clear g0 g1 g2 g3 heq hgd
        go_wp2_with fail
        go_roundg (gk - 1)
        case measure => omega
        case rel => exact ⟨H1.out, HX1.out, k + 1, by omega, by go_num, HN1.out⟩
    · have hkl : k = l.length := by omega
      subst hkl
      rw [List.take_length] at HNO
      clear hd hbw
      go_wp2_with fail
      go_ret
      exact ⟨ret_bool (HR.out.trans HNO.out).symm, HW.out⟩
set_option maxHeartbeats 4000000 in
theorem equalLeaves_same (v v' : Value) (t : List (List Itm)) (w : World) (h : Lvs w v t) (h' : Lvs w v' t) :
    Calls Try.prog 51 #[v, v'] w fun x w' => x = .returned (.bool true) ∧ Below w.heap.size w w' := by
  obtain ⟨a, cap, rfl, hl, hcap, hd⟩ := h
  obtain ⟨a', cap', rfl, hl', hcap', hd'⟩ := h'
  go_enter Try.func51, Try.ntmps51
  go_wp2_with fail
  go_loopg [5] t.length (fun gk s5 wr => Below w.heap.size w wr ∧ ∃ k : Nat, k + gk = t.length ∧ s5 = .int .i64 (k : Int))
  case atStart => exact ⟨Below.refl _ _, 0, by omega, rfl⟩
  case round =>
    obtain ⟨hbw, k, hk, rfl⟩ := hrel
    have HW := hide hbw
    by_cases hlt : k < t.length
    · obtain ⟨b, off, rfl, hbb, hcell⟩ := hd.resolve_left (by rintro rfl; simp at hlt)
      obtain ⟨b', off', rfl, hbb', hcell'⟩ := hd'.resolve_left (by rintro rfl; simp at hlt)
      obtain ⟨lv, e0, hi0, -⟩ := hcell k hlt
      obtain ⟨lu, e1, hi1, -⟩ := hcell' k hlt
      have HI0 := hide (hi0.keep hbw)
      have HI1 := hide (hi1.keep hbw)
      have e0 := (hbw.cell hbb).trans e0
      have e1 := (hbw.cell hbb').trans e1
      have hbl := Nat.lt_of_lt_of_le hbb hbw.size
      have hbl' := Nat.lt_of_lt_of_le hbb' hbw.size
      obtain ⟨la, lc, rfl⟩ := itms_shape hi0
      obtain ⟨ua, uc, rfl⟩ := itms_shape hi1
      clear hcell hd hcell' hd' hbw hi0 hi1
      generalize t[k] = f at *
      have g0 := fun z : BW wr => bw_cell (p := ⟨b, off + k, none⟩) hbl e0 z
      have g1 := fun z : BW wr => bw_cell (p := ⟨b', off' + k, none⟩) hbl' e1 z
      have CV : Hid (∀ z : BW wr, Calls Try.prog 20 #[.slice la f.length lc, .slice ua f.length uc] z.v fun e z' => e = .returned (.bool true) ∧ Below z.v.heap.size z.v z') := fun z => equalItems_same _ _ f z.v (HI0.out.keep z.h) (HI1.out.keep z.h)
      clear e0 e1
      go_wp2_with fail
      refine wp_region_bw (by kernel_rfl) (by kernel_rfl) ?_
      repeat (go_big_quiet_step (first | (go_at_call 20; with_reducible exact bw_of (CV.out _))))
      refine wpQuiet_nil ?_
      rintro _ ⟨z, rfl⟩
      have H1 : Hid (Below w.heap.size w z.v) := HW.out.trans (z.h.mono HW.out.size)
      clear g0 g1
      go_wp2_with fail
      go_roundg (gk - 1)
      case measure => omega
      case rel => exact ⟨H1.out, k + 1, by omega, by go_num⟩
    · clear hd hd' hbw
      go_wp2_with fail
      go_ret
      exact ⟨rfl, HW.out⟩
set_option maxHeartbeats 4000000 in
theorem equalTree_same (v v' : Value) (t : List (List Itm)) (w : World) (h : Lvs w v t) (h' : Lvs w v' t) :
    Calls Try.prog 24 #[.agg #[v], .agg #[v']] w fun x w' => x = .returned (.bool true) ∧ Below w.heap.size w w' := by
  have HL0 := hide h
  have HL1 := hide h'
  obtain ⟨a, cap, rfl, -⟩ := h
  obtain ⟨a', cap', rfl, -⟩ := h'
  have HB := hide (below_box2 w (.cells #[.slice a t.length cap] 25) (.cells #[.slice a' t.length cap'] 25))
  go_enter Try.func24, Try.ntmps24
  go_wp2_with fail
  refine (equalLeaves_same _ _ t _ (HL0.out.keep HB.out) (HL1.out.keep HB.out)).mono ?_
  rintro e w2 ⟨rfl, hb⟩
  have H2 : Hid (Below w.heap.size w w2) := HB.out.trans (hb.mono HB.out.size)
  clear hb
  go_wp2_with fail
  go_ret
  exact ⟨rfl, H2.out⟩
end Go.Proofs.Ytmlphdniiiijpaa
