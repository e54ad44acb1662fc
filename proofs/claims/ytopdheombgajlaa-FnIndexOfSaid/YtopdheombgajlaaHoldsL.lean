/-
  holds of the laws; IndexOf's generator; the plain law of IndexOf.
-/
import Derived.Test.YtopdheombgajlaaIdx
import Derived.Test.YtopdheombgajlaaEqIM
import Derived.Test.YtopdheombgajlaaItemGen
import Derived.Test.YtopdheombgajlaaTreeLd
import Derived.Test.YtopdheombgajlaaTreeV
set_option linter.all false
namespace Go.Proofs.Ytopdheombgajlaa
open Go.RowKit
set_option maxHeartbeats 8000000 in
theorem lholds_any (v : Value) (l : List Itm) (x : Itm) (w : World) (h : Itms w v l) :
    Calls Try.prog 8 #[v, .agg #[.int .i64 x.k, .int .i64 x.r]] w fun e w' => e = .returned (.bool (hasI l x)) ∧ Below w.heap.size w w' := by
  obtain ⟨a, cap, rfl, hl, hcap, hd⟩ := h
  obtain ⟨R, hR⟩ : ∃ R, R = hasI l x := ⟨_, rfl⟩
  rw [← hR]
  have HR := hide hR
  clear hR
  go_enter Try.func8, Try.ntmps8
  go_wp2_with fail
  go_loopg [5] l.length (fun gk sb wr => Below w.heap.size w wr ∧ wr.heap[w.heap.size]? = some (.cells #[.int .i64 x.k, .int .i64 x.r] 29 (0, 0)) ∧ ∃ k : Nat, k + gk = l.length ∧ sb = .int .i64 (k : Int) ∧ hasI (l.take k) x = false)
  case atStart => exact ⟨below_box _ _, blk_alloc w _, 0, by omega, rfl, rfl⟩
  case round =>
    obtain ⟨hbw, hbx, k, hk, rfl, hno⟩ := hrel
    have HW := hide hbw
    have HX := hide hbx
    have HNO := hide hno
    have hbs : w.heap.size < wr.heap.size := lt_block hbx
    clear hbx hno
    by_cases hlt : k < l.length
    · obtain ⟨b, off, rfl, hbb, hcell⟩ := hd.resolve_left (by rintro rfl; simp at hlt)
      have E := hide ((hcell k hlt).keep hbw)
      have hbl := Nat.lt_of_lt_of_le hbb hbw.size
      have HT := hide (hasI_take (x := x) hlt)
      have HME := hide (fun h => hasI_mem (x := x) hlt h)
      clear hcell hd hbw
      generalize l[k] = y at *
      have g0 := fun z : BW wr => bw_cell (p := ⟨b, off + k * 2, none⟩) hbl E.out.1 z
      have g1 := fun z : BW wr => bw_cell (p := ⟨b, off + k * 2 + 1, none⟩) hbl E.out.2 z
      have g2 := fun z : BW wr => bw_cell (p := ⟨w.heap.size, 0, none⟩) hbs (cell_block HX.out 0) z
      have g3 := fun z : BW wr => bw_cell (p := ⟨w.heap.size, 1, none⟩) hbs (cell_block HX.out 1) z
      have hgd := guard_itm .eql y x
      cases hq : (y.k == x.k && y.r == x.r) with
      | true =>
        have heq : ∀ z, (binOp .eql 29 (.agg #[.int .i64 y.k, .int .i64 y.r]) (.agg #[.int .i64 x.k, .int .i64 x.r])).run Try.prog z = .ok (.bool true) z := fun z => by rw [eql_itm, hq]
        have HF : Hid (R = true) := HR.out.trans (HME.out hq)
        clear hq HT HME
        go_wp2_with fail
        refine wp_region_bw (by kernel_rfl) (by kernel_rfl) ?_
        repeat (go_big_quiet_step (fail))
        refine wpQuiet_nil ?_
        rintro _ ⟨z, rfl⟩
        have H1 : Hid (Below w.heap.size w z.v) := HW.out.trans (z.h.mono HW.out.size)
        clear g0 g1 g2 g3 heq hgd
        go_wp2_with fail
        go_ret
        exact ⟨ret_bool HF.out.symm, H1.out⟩
      | false =>
        have heq : ∀ z, (binOp .eql 29 (.agg #[.int .i64 y.k, .int .i64 y.r]) (.agg #[.int .i64 x.k, .int .i64 x.r])).run Try.prog z = .ok (.bool false) z := fun z => by rw [eql_itm, hq]
        have HN1 : Hid (hasI (l.take (k + 1)) x = false) := by unfold Hid; rw [HT.out, HNO.out, hq]; rfl
        clear hq HT HME
        go_wp2_with fail
        refine wp_region_bw (by kernel_rfl) (by kernel_rfl) ?_
        repeat (go_big_quiet_step (fail))
        refine wpQuiet_nil ?_
        rintro _ ⟨z, rfl⟩
        have H1 : Hid (Below w.heap.size w z.v) := HW.out.trans (z.h.mono HW.out.size)
        have HX1 := hide (bw_blk HX.out z)
        clear g0 g1 g2 g3 heq hgd
        go_wp2_with fail
        go_roundg (gk - 1)
        case measure => omega
        case rel => exact ⟨H1.out, HX1.out, k + 1, by omega, by go_num, HN1.out⟩
    · have hkl : k = l.length := by omega
      subst hkl
      rw [List.take_length] at HNO
      clear hd hbw
      go_wp2_with fail
      go_ret
      exact ⟨ret_bool (HR.out.trans HNO.out).symm, HW.out⟩
theorem lholds_is (v : Value) (l : List Itm) (x : Itm) (w : World) (h : Itms w v l) {q : Bool} (hq : hasI l x = q) :
    Calls Try.prog 8 #[v, .agg #[.int .i64 x.k, .int .i64 x.r]] w fun e w' => e = .returned (.bool q) ∧ Below w.heap.size w w' :=
  (lholds_any v l x w h).mono fun _ _ ⟨h1, h2⟩ => ⟨h1.trans (by rw [hq]), h2⟩

/-- drawn rows -/
def DrIPost (w : World) (e : Ending) (w' : World) : Prop := ∃ v l, e = .returned v ∧ OwnI w.heap.size w' v l ∧ l.length ≤ 9 ∧ Below w.heap.size w w'
set_option maxHeartbeats 4000000 in
theorem drawIndexOf_any (v : Value) (w : World) (h : BytesAt w v) :
    Calls Try.prog 4 #[v] w (DrIPost w) := by
  have HV := hide h
  clear h
  go_enter Try.func4, Try.ntmps4
  go_wp2_with fail
  refine (newReader_any v w HV.out).mono ?_
  rintro e w1 ⟨g, rfl, hg, hr, hb1⟩
  have R1 := hide hr
  have HB1 := hide hb1
  clear hr hb1
  go_wp2_with fail
  refine (anyRows_any g 0 w1 R1.out (by omega) (by omega)).mono ?_
  rintro e w2 ⟨gv, cap, l, q, rfl, ho, hl, -, -, hgr⟩
  have HO := hide ho
  have H2 : Hid (Below w.heap.size w w2) := HB1.out.grown hgr HB1.out.size (fun q hq => by cases hq; exact hg)
  clear ho hgr
  go_wp2_with fail
  go_ret
  exact ⟨_, l, rfl, own_mono HO.out HB1.out.size, hl, H2.out⟩
/-- what IndexOf of rows that have one leaves -/
structure IdxD (l r : List Itm) : Prop where
  eq : r = ordL l
  sub : ∀ y ∈ l, hasI r y = true
  ok : ordI r ∧ r.length ≤ 30
  ln : r.length = l.length
theorem idxD {l r : List Itm} (h : IdxOf l r) (h0 : r ≠ []) : IdxD l r := by
  by_cases c : vRows l
  · have e := h.1 c
    subst e
    have hl := ordL_len_eq (asc_nodup c.2.2)
    exact ⟨rfl, fun y hy => hasI_iff.2 (((ordL_spec l).2 y).2 hy), ⟨srt_ordIT (ordL_spec l).1 (fun x hx => c.2.1 x (((ordL_spec l).2 x).1 hx)), by rw [hl]; exact c.1⟩, hl⟩
  · exact absurd (h.2 c) h0
theorem idx_load {r : List Itm} (ho : ordI r ∧ r.length ≤ 30) : VT (loadT r) ∧ flatT (loadT r) = r := ⟨VT.load ho.1 ho.2, flatT_load ho.2⟩
end Go.Proofs.Ytopdheombgajlaa
