/-
  holds, remove and at of the specification.
-/
import Derived.Test.YtmlphdniiiijpaaSetRow
import Derived.Test.YtmlphdniiiijpaaBS
import Derived.Test.YtmlphdniiiijpaaOnl2
import Derived.Laws.StructEq
import Derived.BigQuiet
import Derived.Deep.QuietTactic
set_option linter.all false
namespace Go.Proofs.Ytmlphdniiiijpaa
open Go.RowKit
theorem eql_itm (x y : Itm) (w : World) : (binOp .eql 38 (.agg #[.int .i64 x.k, .int .i64 x.r]) (.agg #[.int .i64 y.k, .int .i64 y.r])).run Try.prog w = .ok (.bool (x.k == y.k && x.r == y.r)) w := by
  have ui := Try.underlying3
  have hS : Try.prog.underlying 38 = some (.struct (Try.prog.fieldsOf 38)) := by kernel_rfl
  have hp : Try.prog.stoodInHeld 38 = false := by kernel_rfl
  rw [run_eql_struct, show (10000 : Nat) = 9999 + 1 from rfl, run_equalIn_agg w 9999 38 _ _ hS hp]
  simp only [Program.fieldsOf, Try.underlying38]
  by_cases h1 : x.k = y.k <;> by_cases h2 : x.r = y.r <;> (first | (go_simp; done) | (go_simp; simp [h1, h2]))
theorem neq_itm (x y : Itm) (w : World) : (binOp .neq 38 (.agg #[.int .i64 x.k, .int .i64 x.r]) (.agg #[.int .i64 y.k, .int .i64 y.r])).run Try.prog w = .ok (.bool (!(x.k == y.k && x.r == y.r))) w := by
  have ui := Try.underlying3
  have hS : Try.prog.underlying 38 = some (.struct (Try.prog.fieldsOf 38)) := by kernel_rfl
  have hp : Try.prog.stoodInHeld 38 = false := by kernel_rfl
  rw [run_neq_struct, show (10000 : Nat) = 9999 + 1 from rfl, run_equalIn_agg w 9999 38 _ _ hS hp]
  simp only [Program.fieldsOf, Try.underlying38]
  by_cases h1 : x.k = y.k <;> by_cases h2 : x.r = y.r <;> (first | (go_simp; done) | (go_simp; simp [h1, h2]))
theorem guard_itm (o : BinOp) (x y : Itm) (p q : Operand) (w : World) : (eqGuard o 38 p q (.agg #[.int .i64 x.k, .int .i64 x.r]) (.agg #[.int .i64 y.k, .int .i64 y.r])).run Try.prog w = .ok () w :=
  run_eqGuard_agg w o 38 p q _ _ (by kernel_rfl)
theorem hasI_take {l : List Itm} {x : Itm} {k : Nat} (h : k < l.length) : hasI (l.take (k + 1)) x = (hasI (l.take k) x || (l[k].k == x.k && l[k].r == x.r)) := by
  unfold hasI
  rw [List.take_succ_eq_append_getElem h, List.any_append]
  simp
theorem hasI_mem {l : List Itm} {x : Itm} {k : Nat} (h : k < l.length) (he : (l[k].k == x.k && l[k].r == x.r) = true) : hasI l x = true := by
  unfold hasI
  rw [List.any_eq_true]
  exact ⟨_, List.getElem_mem h, he⟩
set_option maxHeartbeats 8000000 in
theorem holds_any (v : Value) (l : List Itm) (x : Itm) (w : World) (h : Itms w v l) :
    Calls Try.prog 58 #[v, .agg #[.int .i64 x.k, .int .i64 x.r]] w fun e w' => e = .returned (.bool (hasI l x)) ∧ Below w.heap.size w w' := by
  obtain ⟨a, cap, rfl, hl, hcap, hd⟩ := h
  obtain ⟨R, hR⟩ : ∃ R, R = hasI l x := ⟨_, rfl⟩
  rw [← hR]
  have HR := hide hR
  clear hR
  go_enter Try.func58, Try.ntmps58
  go_wp2_with fail
  go_loopg [5] l.length (fun gk sb wr => Below w.heap.size w wr ∧ wr.heap[w.heap.size]? = some (.cells #[.int .i64 x.k, .int .i64 x.r] 38 (0, 0)) ∧ ∃ k : Nat, k + gk = l.length ∧ sb = .int .i64 (k : Int) ∧ hasI (l.take k) x = false)
  case atStart => exact ⟨below_box _ _, blk_alloc w _, 0, by omega, rfl, rfl⟩
  case round =>
    obtain ⟨hbw, hbx, k, hk, rfl, hno⟩ := hrel
    have HW := hide hbw
    have HX := hide hbx
    have HNO := hide hno
    have hbs : w.heap.size < wr.heap.size := lt_block hbx
    clear hbx hno
    by_cases hlt : k < l.length
    · obtain ⟨b, off, rfl, hbb, hcell⟩ := hd.resolve_left (by rintro rfl; simp at hlt)
      have E := hide ((hcell k hlt).keep hbw)
      have hbl := Nat.lt_of_lt_of_le hbb hbw.size
      have HT := hide (hasI_take (x := x) hlt)
      have HME := hide (fun h => hasI_mem (x := x) hlt h)
      clear hcell hd hbw
      generalize l[k] = y at *
      have g0 := fun z : BW wr => bw_cell (p := ⟨b, off + k * 2, none⟩) hbl E.out.1 z
      have g1 := fun z : BW wr => bw_cell (p := ⟨b, off + k * 2 + 1, none⟩) hbl E.out.2 z
      have g2 := fun z : BW wr => bw_cell (p := ⟨w.heap.size, 0, none⟩) hbs (cell_block HX.out 0) z
      have g3 := fun z : BW wr => bw_cell (p := ⟨w.heap.size, 1, none⟩) hbs (cell_block HX.out 1) z
      have hgd := guard_itm .eql y x
      cases hq : (y.k == x.k && y.r == x.r) with
      | true =>
        have heq : ∀ z, (binOp .eql 38 (.agg #[.int .i64 y.k, .int .i64 y.r]) (.agg #[.int .i64 x.k, .int .i64 x.r])).run Try.prog z = .ok (.bool true) z := fun z => by rw [eql_itm, hq]
        have HF : Hid (R = true) := HR.out.trans (HME.out hq)
        clear hq HT HME
        go_wp2_with fail
        refine wp_region_bw (by kernel_rfl) (by kernel_rfl) ?_
        repeat (go_big_quiet_step (fail))
        refine wpQuiet_nil ?_
        rintro _ ⟨z, rfl⟩
        have H1 : Hid (Below w.heap.size w z.v) := HW.out.trans (z.h.mono HW.out.size)
        clear g0 g1 g2 g3 heq hgd
        go_wp2_with fail
        go_ret
        exact ⟨ret_bool HF.out.symm, H1.out⟩
      | false =>
        have heq : ∀ z, (binOp .eql 38 (.agg #[.int .i64 y.k, .int .i64 y.r]) (.agg #[.int .i64 x.k, .int .i64 x.r])).run Try.prog z = .ok (.bool false) z := fun z => by rw [eql_itm, hq]
        have HN1 : Hid (hasI (l.take (k + 1)) x = false) := by unfold Hid; rw [HT.out, HNO.out, hq]; rfl
        clear hq HT HME
        go_wp2_with fail
        refine wp_region_bw (by kernel_rfl) (by kernel_rfl) ?_
        repeat (go_big_quiet_step (fail))
        refine wpQuiet_nil ?_
        rintro _ ⟨z, rfl⟩
        have H1 : Hid (Below w.heap.size w z.v) := HW.out.trans (z.h.mono HW.out.size)
        have HX1 := hide (bw_blk HX.out z)
        clear g0 g1 g2 g3 heq hgd
        go_wp2_with fail
        go_roundg (gk - 1)
        case measure => omega
        case rel => exact ⟨H1.out, HX1.out, k + 1, by omega, by go_num, HN1.out⟩
    · have hkl : k = l.length := by omega
      subst hkl
      rw [List.take_length] at HNO
      clear hd hbw
      go_wp2_with fail
      go_ret
      exact ⟨ret_bool (HR.out.trans HNO.out).symm, HW.out⟩
set_option maxHeartbeats 16000000 in
theorem remove_any (v : Value) (l : List Itm) (x : Itm) (w : World) (h : Itms w v l) (hn : l.length ≤ 1000) :
    Calls Try.prog 60 #[v, .agg #[.int .i64 x.k, .int .i64 x.r]] w (ItRet w (delL l x)) := by
  obtain ⟨a, cap, rfl, hl, hcap, hd⟩ := h
  obtain ⟨i0, hi, hz0, hz1, hz2⟩ := info_parts infoI
  obtain ⟨p, hp⟩ : ∃ p : Itm → Bool, p = fun y => !(y.k == x.k && y.r == x.r) := ⟨_, rfl⟩
  obtain ⟨R, hR⟩ : ∃ R, R = delL l x := ⟨_, rfl⟩
  rw [← hR]
  have HRR := hide (hR.trans (show delL l x = l.filter p by rw [hp]; rfl))
  have HPP : Hid (∀ y, p y = !(y.k == x.k && y.r == x.r)) := fun y => by rw [hp]
  clear hR hp
  go_enter Try.func60, Try.ntmps60
  go_wp2_with fail
  go_loopg [5, 6] l.length (fun gk sa sb wr => Below w.heap.size w wr ∧ wr.heap[w.heap.size]? = some (.cells #[.int .i64 x.k, .int .i64 x.r] 38 (0, 0)) ∧ ∃ k : Nat, k + gk = l.length ∧ sb = .int .i64 (k : Int) ∧ OwnI (w.heap.size + 1) wr sa (((l.take k).filter p)))
  case atStart => exact ⟨below_box2 _ _ _, blk_keep (blk_alloc w _) _, 0, by omega, rfl, own_lit_at (by simp) (by simp)⟩
  case round =>
    obtain ⟨hbw, hbx, k, hk, rfl, hown⟩ := hrel
    have HW := hide hbw
    have HX := hide hbx
    have HO := hide hown
    have hbs : w.heap.size < wr.heap.size := lt_block hbx
    clear hown hbx
    by_cases hlt : k < l.length
    · obtain ⟨b, off, rfl, hbb, hcell⟩ := hd.resolve_left (by rintro rfl; simp at hlt)
      have E := hide ((hcell k hlt).keep hbw)
      have hbl := Nat.lt_of_lt_of_le hbb hbw.size
      have HT := hide (take_filterI hlt p)
      have hfl : ((l.take k).filter p).length ≤ k := Nat.le_trans (List.length_filter_le _ _) (by rw [List.length_take]; omega)
      clear hcell hd hbw
      generalize l[k] = y at *
      obtain ⟨L0, hL0⟩ : ∃ L0, ((l.take k).filter p) = L0 := ⟨_, rfl⟩
      obtain ⟨L1, hL1⟩ : ∃ L1, ((l.take (k + 1)).filter p) = L1 := ⟨_, rfl⟩
      have hl0 : L0.length ≤ k := by rw [← hL0]; omega
      have HF0 : Hid (p y = false → L1 = L0) := fun hp => by rw [← hL0, ← hL1, HT.out, hp]; simp
      have HF1 : Hid (p y = true → L1 = L0 ++ [y]) := fun hp => by rw [← hL0, ← hL1, HT.out, hp]; simp
      rw [hL0] at HO
      have HL1 := hide hL1
      clear hL0 hL1 HT hfl
      have g0 := fun z : BW wr => bw_cell (p := ⟨b, off + k * 2, none⟩) hbl E.out.1 z
      have g1 := fun z : BW wr => bw_cell (p := ⟨b, off + k * 2 + 1, none⟩) hbl E.out.2 z
      have g2 := fun z : BW wr => bw_cell (p := ⟨w.heap.size, 0, none⟩) hbs (cell_block HX.out 0) z
      have g3 := fun z : BW wr => bw_cell (p := ⟨w.heap.size, 1, none⟩) hbs (cell_block HX.out 1) z
      have hgd := guard_itm .neq y x
      cases hq : (y.k == x.k && y.r == x.r) with
      | false =>
        have heq : ∀ z, (binOp .neq 38 (.agg #[.int .i64 y.k, .int .i64 y.r]) (.agg #[.int .i64 x.k, .int .i64 x.r])).run Try.prog z = .ok (.bool true) z := fun z => by rw [neq_itm, hq]; rfl
        have HF := hide (HF1.out (by rw [HPP.out, hq]; rfl))
        clear hq HF0 HF1
        go_wp2_with fail
        refine wp_region_bw (by kernel_rfl) (by kernel_rfl) ?_
        repeat (go_big_quiet_step (fail))
        refine wpQuiet_nil ?_
        rintro _ ⟨z, rfl⟩
        have H1 : Hid (Below w.heap.size w z.v) := HW.out.trans (z.h.mono HW.out.size)
        have HX1 := hide (bw_blk HX.out z)
        have HO1 := hide (HO.out.keep z.h)
        have e0 := g0 z
        have e1 := g1 z
        have hzs : wr.heap.size ≤ z.v.heap.size := z.h.size
        clear g0 g1 g2 g3 heq hgd
        go_wp2_with (at_builtin; refine wpList_append_lies _ rfl (.tmp 20) (.tmp 25) 28 rfl (w.heap.size + 1) 38 i0 _ 2 16 Try.underlying28 hi hz0 hz1 hz2 rfl (by decide) _ _ _ rfl (World.ownsRow.alloc HO1.out _) ⟨_, 0, none⟩ 1 1 [.int .i64 y.k, .int .i64 y.r] rfl rfl ?c1 ?h1 (by decide) ?h63 ?hb ?hbase _ rfl ?next)
        case c1 => exact World.news_of_block (cs := #[.int .i64 y.k, .int .i64 y.r]) (blk_at rfl _)
        case h1 => intro u hu; simp at hu; rcases hu with rfl | rfl <;> rfl
        case h63 => unfold maxLen; omega
        case hb => omega
        case hbase => simp; omega
        case next =>
          intro g cp w3 hown hgrow hat hlt3
          have HN : Hid (OwnI (w.heap.size + 1) w3 (.slice (some ⟨g, 0, none⟩) (L0.length + 1) cp) L1) := by
            rw [HF.out]
            unfold Hid OwnI
            rw [itmCells_app, List.length_append]
            exact hown
          have H3 : Hid (Below w.heap.size w w3) := (H1.out.alloc H1.out.size _).grown hgrow (by simp; omega) (fun q hq => by have := (World.ownsRow.lt HO1.out q hq).1; omega)
          have HX3 : Hid (w3.heap[w.heap.size]? = some (.cells #[.int .i64 x.k, .int .i64 x.r] 38 (0, 0))) := (hgrow.block w.heap.size (by simp; omega) (fun hq => by have := (World.ownsRow.lt HO1.out _ hq.symm).1; omega)).trans (blk_keep HX1.out _)
          clear hown hgrow hat
          go_wp2_with fail
          go_roundg (gk - 1)
          case measure => omega
          case rel => exact ⟨H3.out, HX3.out, k + 1, by omega, by go_num, by rw [HL1.out]; exact HN.out⟩
      | true =>
        have heq : ∀ z, (binOp .neq 38 (.agg #[.int .i64 y.k, .int .i64 y.r]) (.agg #[.int .i64 x.k, .int .i64 x.r])).run Try.prog z = .ok (.bool false) z := fun z => by rw [neq_itm, hq]; rfl
        have HF := hide (HF0.out (by rw [HPP.out, hq]; rfl))
        clear hq HF0 HF1
        go_wp2_with fail
        refine wp_region_bw (by kernel_rfl) (by kernel_rfl) ?_
        repeat (go_big_quiet_step (fail))
        refine wpQuiet_nil ?_
        rintro _ ⟨z, rfl⟩
        have H1 : Hid (Below w.heap.size w z.v) := HW.out.trans (z.h.mono HW.out.size)
        have HX1 := hide (bw_blk HX.out z)
        have HO1 := hide (HO.out.keep z.h)
        clear g0 g1 g2 g3 heq hgd
        go_wp2_with fail
        go_roundg (gk - 1)
        case measure => omega
        case rel => exact ⟨H1.out, HX1.out, k + 1, by omega, by go_num, by rw [HL1.out, HF.out]; exact HO1.out⟩
    · have hkl : k = l.length := by omega
      subst hkl
      rw [List.take_length] at HO
      obtain ⟨ra, rc, rfl, -⟩ := own_slc HO.out
      clear hd hbw
      go_wp2_with fail
      go_ret
      exact ⟨_, rfl, by rw [HRR.out]; exact own_mono HO.out (by omega), HW.out⟩
/-- the index of a row with a number -/
def atN (l : List Itm) (n : Int) : Int := if hasR l n then ((l.findIdx (fun e => e.r == n) : Nat) : Int) else -1
end Go.Proofs.Ytmlphdniiiijpaa
