/-
  validRows, of the program and of the specification; Clone, sorted, IndexOf.
-/
import Derived.Test.YtopdheombgajlaaInsI
set_option linter.all false
namespace Go.Proofs.Ytopdheombgajlaa
open Go.RowKit
def stepV (l : List Itm) (i : Nat) : Prop := ∀ h : i < l.length, okI l[i] = true ∧ ∀ h0 : 0 < i, (l[i - 1]'(by omega)).r < l[i].r
theorem vRows_iff (l : List Itm) : vRows l ↔ l.length ≤ 30 ∧ ∀ i, stepV l i := by
  constructor
  · rintro ⟨h1, h2, h3⟩
    exact ⟨h1, fun i h => ⟨h2 _ (List.getElem_mem h), fun h0 => List.pairwise_iff_getElem.1 h3 (i - 1) i (by omega) h (by omega)⟩⟩
  · rintro ⟨h1, h2⟩
    refine ⟨h1, fun x hx => ?_, ?_⟩
    · obtain ⟨i, hi, rfl⟩ := List.getElem_of_mem hx
      exact (h2 i hi).1
    · have key : ∀ d i (h : i + 1 + d < l.length), (l[i]'(by omega)).r < l[i + 1 + d].r := by
        intro d
        induction d with
        | zero => intro i h; exact (h2 (i + 1) h).2 (by omega)
        | succ d ih =>
          intro i h
          have h3 := ih i (by omega)
          have h4 := (h2 (i + 1 + (d + 1)) h).2 (by omega)
          simp only [show i + 1 + (d + 1) - 1 = i + 1 + d by omega] at h4
          omega
      refine List.pairwise_iff_getElem.2 fun i j hi hj hij => ?_
      have := key (j - i - 1) i (by omega)
      simp only [show i + 1 + (j - i - 1) = j by omega] at this
      exact this
theorem vr_bad {l : List Itm} {k : Nat} (hk : k < l.length) (h : okI l[k] = false) : ¬ vRows l := fun ho => by have := (((vRows_iff l).1 ho).2 k hk).1; rw [h] at this; cases this
theorem vr_bad2 {l : List Itm} {j : Nat} (hk : j + 1 < l.length) (h : l[j + 1].r ≤ (l[j]'(by omega)).r) : ¬ vRows l := fun ho => by
  have := (((vRows_iff l).1 ho).2 (j + 1) hk).2 (by omega)
  simp at this; omega
theorem sv_0 {l : List Itm} (hk : 0 < l.length) (h : okI l[0] = true) : stepV l 0 := fun _ => ⟨h, fun h0 => by omega⟩
theorem sv_s {l : List Itm} {j : Nat} (hk : j + 1 < l.length) (h : okI l[j + 1] = true) (h2 : (l[j]'(by omega)).r < l[j + 1].r) : stepV l (j + 1) := fun _ => ⟨h, fun h0 => by simpa using h2⟩
theorem sv_upto {l : List Itm} {k : Nat} (h : ∀ i, i < k → stepV l i) (h1 : stepV l k) : ∀ i, i < k + 1 → stepV l i := fun i hi => by
  by_cases hik : i = k
  · subst hik; exact h1
  · exact h i (by omega)
theorem sv_all {l : List Itm} (h : ∀ i, i < l.length → stepV l i) (hl : l.length ≤ 30) : vRows l := (vRows_iff l).2 ⟨hl, fun i => by
  by_cases hi : i < l.length
  · exact h i hi
  · exact fun h => absurd h hi⟩
theorem bret_no {w w' : World} {p : Prop} (h : ¬ p) (hb : Below w.heap.size w w') : BRet w p (.returned (.bool false)) w' := ⟨false, rfl, ⟨fun h' => absurd h' (by simp), fun h' => absurd h' h⟩, hb⟩
theorem bret_yes {w w' : World} {p : Prop} (h : p) (hb : Below w.heap.size w w') : BRet w p (.returned (.bool true)) w' := ⟨true, rfl, ⟨fun _ => h, fun _ => rfl⟩, hb⟩
set_option maxHeartbeats 16000000 in
theorem ivalidRows_any (v : Value) (l : List Itm) (w : World) (h : Itms w v l) :
    Calls Try.prog 13 #[v] w (BRet w (vRows l)) := by
  obtain ⟨a, cap, rfl, hl, hcap, hd⟩ := h
  by_cases h30 : (30 : Int) < (l.length : Int)
  · have d30 : decide ((30 : Int) < (l.length : Int)) = true := decide_eq_true h30
    have HN : Hid (¬ vRows l) := fun h => by have := h.1; omega
    go_enter Try.func13, Try.ntmps13
    go_wp2_with fail
    go_ret
    exact bret_no HN.out (Below.refl _ _)
  have d30 : decide ((30 : Int) < (l.length : Int)) = false := decide_eq_false h30
  have HL : Hid (l.length ≤ 30) := by unfold Hid; omega
  go_enter Try.func13, Try.ntmps13
  go_wp2_with fail
  go_loopg [10] l.length (fun gk sk wr => Below w.heap.size w wr ∧ ∃ k : Nat, k + gk = l.length ∧ sk = .int .i64 (k : Int) ∧ ∀ i, i < k → stepV l i)
  case atStart => exact ⟨Below.refl _ _, 0, by omega, rfl, fun i hi => by omega⟩
  case round =>
    obtain ⟨hbw, k, hk, rfl, hP⟩ := hrel
    have HW := hide hbw
    have HP := hide hP
    clear hP
    by_cases hlt : k < l.length
    · obtain ⟨b, off, rfl, hbb, hcell⟩ := hd.resolve_left (by rintro rfl; simp at hlt)
      have hbl := Nat.lt_of_lt_of_le hbb hbw.size
      cases k with
      | zero =>
        have E : Hid (ItmAt wr b off l[0]) := by
          have q := (hcell 0 hlt).keep hbw
          rw [Nat.zero_mul, Nat.add_zero] at q
          exact q
        have HB := hide (fun h => vr_bad hlt h)
        have HS := hide (fun h => sv_0 hlt h)
        clear hcell hd hbw
        generalize l[0] = x at *
        cases hok : okI x with
        | false =>
          have HOK := hide hok
          clear hok
          have CV : Hid (∀ z : World, Calls Try.prog 24 #[.agg #[.int .i64 x.k, .int .i64 x.r]] z fun e z' => e = .returned (.bool false) ∧ Below z.heap.size z z') := fun z => by have q := ivalid_any x z; rw [HOK.out] at q; exact q
          obtain ⟨e0, e1⟩ := E.out
          go_wp2_with fail
          have HX := hide (blk_alloc wr (.cells #[.int .i64 x.k, .int .i64 x.r] 29))
          have HK := hide (below_box wr (.cells #[.int .i64 x.k, .int .i64 x.r] 29))
          have HWB : Hid (Below w.heap.size w (wr.alloc (.cells #[.int .i64 x.k, .int .i64 x.r] 29))) := HW.out.trans (HK.out.mono HW.out.size)
          have hbl2 : wr.heap.size < (wr.alloc (.cells #[.int .i64 x.k, .int .i64 x.r] 29)).heap.size := lt_block HX.out
          have hbl3 : b < (wr.alloc (.cells #[.int .i64 x.k, .int .i64 x.r] 29)).heap.size := Nat.lt_trans hbl hbl2
          obtain ⟨WB, hWB⟩ : ∃ W, W = wr.alloc (.cells #[.int .i64 x.k, .int .i64 x.r] 29) := ⟨_, rfl⟩
          rw [← hWB] at HX HWB hbl2 hbl3
          rw [← hWB]
          clear hWB HK
          have g0 := fun z : BW WB => bw_cell (p := ⟨wr.heap.size, 0, none⟩) hbl2 (cell_block HX.out 0) z
          have g1 := fun z : BW WB => bw_cell (p := ⟨wr.heap.size, 1, none⟩) hbl2 (cell_block HX.out 1) z
          refine wp_region_bw (by kernel_rfl) (by kernel_rfl) ?_
          repeat (go_big_quiet_step (first | (go_at_call 24; with_reducible exact bw_of (CV.out _))))
          refine wpQuiet_nil ?_
          rintro _ ⟨z, rfl⟩
          have H1 : Hid (Below w.heap.size w z.v) := HWB.out.trans (z.h.mono HWB.out.size)
          clear g0 g1
          go_wp2_with fail
          go_ret
          exact bret_no (HB.out HOK.out) H1.out
        | true =>
          have HOK := hide hok
          clear hok
          have CV : Hid (∀ z : World, Calls Try.prog 24 #[.agg #[.int .i64 x.k, .int .i64 x.r]] z fun e z' => e = .returned (.bool true) ∧ Below z.heap.size z z') := fun z => by have q := ivalid_any x z; rw [HOK.out] at q; exact q
          obtain ⟨e0, e1⟩ := E.out
          go_wp2_with fail
          have HX := hide (blk_alloc wr (.cells #[.int .i64 x.k, .int .i64 x.r] 29))
          have HK := hide (below_box wr (.cells #[.int .i64 x.k, .int .i64 x.r] 29))
          have HWB : Hid (Below w.heap.size w (wr.alloc (.cells #[.int .i64 x.k, .int .i64 x.r] 29))) := HW.out.trans (HK.out.mono HW.out.size)
          have hbl2 : wr.heap.size < (wr.alloc (.cells #[.int .i64 x.k, .int .i64 x.r] 29)).heap.size := lt_block HX.out
          have hbl3 : b < (wr.alloc (.cells #[.int .i64 x.k, .int .i64 x.r] 29)).heap.size := Nat.lt_trans hbl hbl2
          obtain ⟨WB, hWB⟩ : ∃ W, W = wr.alloc (.cells #[.int .i64 x.k, .int .i64 x.r] 29) := ⟨_, rfl⟩
          rw [← hWB] at HX HWB hbl2 hbl3
          rw [← hWB]
          clear hWB HK
          have g0 := fun z : BW WB => bw_cell (p := ⟨wr.heap.size, 0, none⟩) hbl2 (cell_block HX.out 0) z
          have g1 := fun z : BW WB => bw_cell (p := ⟨wr.heap.size, 1, none⟩) hbl2 (cell_block HX.out 1) z
          refine wp_region_bw (by kernel_rfl) (by kernel_rfl) ?_
          repeat (go_big_quiet_step (first | (go_at_call 24; with_reducible exact bw_of (CV.out _))))
          refine wpQuiet_nil ?_
          rintro _ ⟨z, rfl⟩
          have H1 : Hid (Below w.heap.size w z.v) := HWB.out.trans (z.h.mono HWB.out.size)
          clear g0 g1
          go_wp2_with fail
          go_roundg (gk - 1)
          case measure => omega
          case rel => exact ⟨H1.out, 0 + 1, by omega, by go_num, sv_upto HP.out (HS.out HOK.out)⟩
      | succ j =>
        have E := hide ((hcell (j + 1) hlt).keep hbw)
        have Ep := hide ((hcell j (by omega)).keep hbw)
        have HB := hide (fun h => vr_bad hlt h)
        have HB2 := hide (fun h => vr_bad2 hlt h)
        have HS := hide (fun h h2 => sv_s hlt h h2)
        clear hcell hd hbw
        generalize l[j + 1] = x at *
        generalize l[j] = y at *
        have hj0 : decide ((0 : Int) < ((j + 1 : Nat) : Int)) = true := decide_eq_true (by omega)
        cases hok : okI x with
        | false =>
          have HOK := hide hok
          clear hok
          have CV : Hid (∀ z : World, Calls Try.prog 24 #[.agg #[.int .i64 x.k, .int .i64 x.r]] z fun e z' => e = .returned (.bool false) ∧ Below z.heap.size z z') := fun z => by have q := ivalid_any x z; rw [HOK.out] at q; exact q
          obtain ⟨e0, e1⟩ := E.out
          go_wp2_with fail
          have HX := hide (blk_alloc wr (.cells #[.int .i64 x.k, .int .i64 x.r] 29))
          have HK := hide (below_box wr (.cells #[.int .i64 x.k, .int .i64 x.r] 29))
          have HWB : Hid (Below w.heap.size w (wr.alloc (.cells #[.int .i64 x.k, .int .i64 x.r] 29))) := HW.out.trans (HK.out.mono HW.out.size)
          have hbl2 : wr.heap.size < (wr.alloc (.cells #[.int .i64 x.k, .int .i64 x.r] 29)).heap.size := lt_block HX.out
          have hbl3 : b < (wr.alloc (.cells #[.int .i64 x.k, .int .i64 x.r] 29)).heap.size := Nat.lt_trans hbl hbl2
          have Ep2 := hide (Ep.out.keep HK.out)
          obtain ⟨WB, hWB⟩ : ∃ W, W = wr.alloc (.cells #[.int .i64 x.k, .int .i64 x.r] 29) := ⟨_, rfl⟩
          rw [← hWB] at HX HWB hbl2 hbl3 Ep2
          rw [← hWB]
          clear hWB HK
          have g0 := fun z : BW WB => bw_cell (p := ⟨wr.heap.size, 0, none⟩) hbl2 (cell_block HX.out 0) z
          have g1 := fun z : BW WB => bw_cell (p := ⟨wr.heap.size, 1, none⟩) hbl2 (cell_block HX.out 1) z
          have g2 := fun z : BW WB => bw_cell (p := ⟨b, off + j * 2, none⟩) hbl3 Ep2.out.1 z
          have g3 := fun z : BW WB => bw_cell (p := ⟨b, off + j * 2 + 1, none⟩) hbl3 Ep2.out.2 z
          refine wp_region_bw (by kernel_rfl) (by kernel_rfl) ?_
          repeat (go_big_quiet_step (first | (go_at_call 24; with_reducible exact bw_of (CV.out _))))
          refine wpQuiet_nil ?_
          rintro _ ⟨z, rfl⟩
          have H1 : Hid (Below w.heap.size w z.v) := HWB.out.trans (z.h.mono HWB.out.size)
          clear g0 g1 g2 g3
          go_wp2_with fail
          go_ret
          exact bret_no (HB.out HOK.out) H1.out
        | true =>
          have HOK := hide hok
          clear hok
          by_cases hle : x.r ≤ y.r
          · have hle' : decide (x.r ≤ y.r) = true := decide_eq_true hle
            have HC := hide hle
            clear hle
            have CV : Hid (∀ z : World, Calls Try.prog 24 #[.agg #[.int .i64 x.k, .int .i64 x.r]] z fun e z' => e = .returned (.bool true) ∧ Below z.heap.size z z') := fun z => by have q := ivalid_any x z; rw [HOK.out] at q; exact q
            obtain ⟨e0, e1⟩ := E.out
            go_wp2_with fail
            have HX := hide (blk_alloc wr (.cells #[.int .i64 x.k, .int .i64 x.r] 29))
            have HK := hide (below_box wr (.cells #[.int .i64 x.k, .int .i64 x.r] 29))
            have HWB : Hid (Below w.heap.size w (wr.alloc (.cells #[.int .i64 x.k, .int .i64 x.r] 29))) := HW.out.trans (HK.out.mono HW.out.size)
            have hbl2 : wr.heap.size < (wr.alloc (.cells #[.int .i64 x.k, .int .i64 x.r] 29)).heap.size := lt_block HX.out
            have hbl3 : b < (wr.alloc (.cells #[.int .i64 x.k, .int .i64 x.r] 29)).heap.size := Nat.lt_trans hbl hbl2
            have Ep2 := hide (Ep.out.keep HK.out)
            obtain ⟨WB, hWB⟩ : ∃ W, W = wr.alloc (.cells #[.int .i64 x.k, .int .i64 x.r] 29) := ⟨_, rfl⟩
            rw [← hWB] at HX HWB hbl2 hbl3 Ep2
            rw [← hWB]
            clear hWB HK
            have g0 := fun z : BW WB => bw_cell (p := ⟨wr.heap.size, 0, none⟩) hbl2 (cell_block HX.out 0) z
            have g1 := fun z : BW WB => bw_cell (p := ⟨wr.heap.size, 1, none⟩) hbl2 (cell_block HX.out 1) z
            have g2 := fun z : BW WB => bw_cell (p := ⟨b, off + j * 2, none⟩) hbl3 Ep2.out.1 z
            have g3 := fun z : BW WB => bw_cell (p := ⟨b, off + j * 2 + 1, none⟩) hbl3 Ep2.out.2 z
            refine wp_region_bw (by kernel_rfl) (by kernel_rfl) ?_
            repeat (go_big_quiet_step (first | (go_at_call 24; with_reducible exact bw_of (CV.out _))))
            refine wpQuiet_nil ?_
            rintro _ ⟨z, rfl⟩
            have H1 : Hid (Below w.heap.size w z.v) := HWB.out.trans (z.h.mono HWB.out.size)
            clear g0 g1 g2 g3
            go_wp2_with fail
            go_ret
            exact bret_no (HB2.out HC.out) H1.out
          · have hle' : decide (x.r ≤ y.r) = false := decide_eq_false hle
            have HC := hide (Int.not_le.1 hle)
            clear hle
            have CV : Hid (∀ z : World, Calls Try.prog 24 #[.agg #[.int .i64 x.k, .int .i64 x.r]] z fun e z' => e = .returned (.bool true) ∧ Below z.heap.size z z') := fun z => by have q := ivalid_any x z; rw [HOK.out] at q; exact q
            obtain ⟨e0, e1⟩ := E.out
            go_wp2_with fail
            have HX := hide (blk_alloc wr (.cells #[.int .i64 x.k, .int .i64 x.r] 29))
            have HK := hide (below_box wr (.cells #[.int .i64 x.k, .int .i64 x.r] 29))
            have HWB : Hid (Below w.heap.size w (wr.alloc (.cells #[.int .i64 x.k, .int .i64 x.r] 29))) := HW.out.trans (HK.out.mono HW.out.size)
            have hbl2 : wr.heap.size < (wr.alloc (.cells #[.int .i64 x.k, .int .i64 x.r] 29)).heap.size := lt_block HX.out
            have hbl3 : b < (wr.alloc (.cells #[.int .i64 x.k, .int .i64 x.r] 29)).heap.size := Nat.lt_trans hbl hbl2
            have Ep2 := hide (Ep.out.keep HK.out)
            obtain ⟨WB, hWB⟩ : ∃ W, W = wr.alloc (.cells #[.int .i64 x.k, .int .i64 x.r] 29) := ⟨_, rfl⟩
            rw [← hWB] at HX HWB hbl2 hbl3 Ep2
            rw [← hWB]
            clear hWB HK
            have g0 := fun z : BW WB => bw_cell (p := ⟨wr.heap.size, 0, none⟩) hbl2 (cell_block HX.out 0) z
            have g1 := fun z : BW WB => bw_cell (p := ⟨wr.heap.size, 1, none⟩) hbl2 (cell_block HX.out 1) z
            have g2 := fun z : BW WB => bw_cell (p := ⟨b, off + j * 2, none⟩) hbl3 Ep2.out.1 z
            have g3 := fun z : BW WB => bw_cell (p := ⟨b, off + j * 2 + 1, none⟩) hbl3 Ep2.out.2 z
            refine wp_region_bw (by kernel_rfl) (by kernel_rfl) ?_
            repeat (go_big_quiet_step (first | (go_at_call 24; with_reducible exact bw_of (CV.out _))))
            refine wpQuiet_nil ?_
            rintro _ ⟨z, rfl⟩
            have H1 : Hid (Below w.heap.size w z.v) := HWB.out.trans (z.h.mono HWB.out.size)
            clear g0 g1 g2 g3
            go_wp2_with fail
            go_roundg (gk - 1)
            case measure => omega
            case rel => exact ⟨H1.out, j + 1 + 1, by omega, by go_num, sv_upto HP.out (HS.out HOK.out HC.out)⟩
    · have hkl : k = l.length := by omega
      subst hkl
      have HY := hide (sv_all HP.out HL.out)
      clear hd hbw
      go_wp2_with fail
      go_ret
      exact bret_yes HY.out HW.out
set_option maxHeartbeats 16000000 in
theorem svalidRows_any (v : Value) (l : List Itm) (w : World) (h : Itms w v l) :
    Calls Try.prog 15 #[v] w (BRet w (vRows l)) := by
  obtain ⟨a, cap, rfl, hl, hcap, hd⟩ := h
  go_enter Try.func15, Try.ntmps15
  go_wp2_with fail
  go_loopg [3] l.length (fun gk sk wr => Below w.heap.size w wr ∧ ∃ k : Nat, k + gk = l.length ∧ sk = .int .i64 (k : Int) ∧ ∀ i, i < k → stepV l i)
  case atStart => exact ⟨Below.refl _ _, 0, by omega, rfl, fun i hi => by omega⟩
  case round =>
    obtain ⟨hbw, k, hk, rfl, hP⟩ := hrel
    have HW := hide hbw
    have HP := hide hP
    clear hP
    by_cases hlt : k < l.length
    · obtain ⟨b, off, rfl, hbb, hcell⟩ := hd.resolve_left (by rintro rfl; simp at hlt)
      have hbl := Nat.lt_of_lt_of_le hbb hbw.size
      cases k with
      | zero =>
        have E : Hid (ItmAt wr b off l[0]) := by
          have q := (hcell 0 hlt).keep hbw
          rw [Nat.zero_mul, Nat.add_zero] at q
          exact q
        have HB := hide (fun h => vr_bad hlt h)
        have HS := hide (fun h => sv_0 hlt h)
        clear hcell hd hbw
        generalize l[0] = x at *
        cases hok : okI x with
        | false =>
          have HOK := hide hok
          clear hok
          have CV : Hid (∀ z : World, Calls Try.prog 27 #[.agg #[.int .i64 x.k, .int .i64 x.r]] z fun e z' => e = .returned (.bool false) ∧ Below z.heap.size z z') := fun z => by have q := svalidItem_any x z; rw [HOK.out] at q; exact q
          have g0 := fun z : BW wr => bw_cell (p := ⟨b, off, none⟩) hbl E.out.1 z
          have g1 := fun z : BW wr => bw_cell (p := ⟨b, off + 1, none⟩) hbl E.out.2 z
          go_wp2_with fail
          refine wp_region_bw (by kernel_rfl) (by kernel_rfl) ?_
          repeat (go_big_quiet_step (first | (go_at_call 27; with_reducible exact bw_of (CV.out _))))
          refine wpQuiet_nil ?_
          rintro _ ⟨z, rfl⟩
          have H1 : Hid (Below w.heap.size w z.v) := HW.out.trans (z.h.mono HW.out.size)
          clear g0 g1
          go_wp2_with fail
          go_ret
          exact bret_no (HB.out HOK.out) H1.out
        | true =>
          have HOK := hide hok
          clear hok
          have CV : Hid (∀ z : World, Calls Try.prog 27 #[.agg #[.int .i64 x.k, .int .i64 x.r]] z fun e z' => e = .returned (.bool true) ∧ Below z.heap.size z z') := fun z => by have q := svalidItem_any x z; rw [HOK.out] at q; exact q
          have g0 := fun z : BW wr => bw_cell (p := ⟨b, off, none⟩) hbl E.out.1 z
          have g1 := fun z : BW wr => bw_cell (p := ⟨b, off + 1, none⟩) hbl E.out.2 z
          go_wp2_with fail
          refine wp_region_bw (by kernel_rfl) (by kernel_rfl) ?_
          repeat (go_big_quiet_step (first | (go_at_call 27; with_reducible exact bw_of (CV.out _))))
          refine wpQuiet_nil ?_
          rintro _ ⟨z, rfl⟩
          have H1 : Hid (Below w.heap.size w z.v) := HW.out.trans (z.h.mono HW.out.size)
          clear g0 g1
          go_wp2_with fail
          go_roundg (gk - 1)
          case measure => omega
          case rel => exact ⟨H1.out, 0 + 1, by omega, by go_num, sv_upto HP.out (HS.out HOK.out)⟩
      | succ j =>
        have E := hide ((hcell (j + 1) hlt).keep hbw)
        have Ep := hide ((hcell j (by omega)).keep hbw)
        have HB := hide (fun h => vr_bad hlt h)
        have HB2 := hide (fun h => vr_bad2 hlt h)
        have HS := hide (fun h h2 => sv_s hlt h h2)
        clear hcell hd hbw
        generalize l[j + 1] = x at *
        generalize l[j] = y at *
        have hj0 : decide ((0 : Int) < ((j + 1 : Nat) : Int)) = true := decide_eq_true (by omega)
        cases hok : okI x with
        | false =>
          have HOK := hide hok
          clear hok
          have CV : Hid (∀ z : World, Calls Try.prog 27 #[.agg #[.int .i64 x.k, .int .i64 x.r]] z fun e z' => e = .returned (.bool false) ∧ Below z.heap.size z z') := fun z => by have q := svalidItem_any x z; rw [HOK.out] at q; exact q
          have g0 := fun z : BW wr => bw_cell (p := ⟨b, off + (j + 1) * 2, none⟩) hbl E.out.1 z
          have g1 := fun z : BW wr => bw_cell (p := ⟨b, off + (j + 1) * 2 + 1, none⟩) hbl E.out.2 z
          have g2 := fun z : BW wr => bw_cell (p := ⟨b, off + j * 2, none⟩) hbl Ep.out.1 z
          have g3 := fun z : BW wr => bw_cell (p := ⟨b, off + j * 2 + 1, none⟩) hbl Ep.out.2 z
          go_wp2_with fail
          refine wp_region_bw (by kernel_rfl) (by kernel_rfl) ?_
          repeat (go_big_quiet_step (first | (go_at_call 27; with_reducible exact bw_of (CV.out _))))
          refine wpQuiet_nil ?_
          rintro _ ⟨z, rfl⟩
          have H1 : Hid (Below w.heap.size w z.v) := HW.out.trans (z.h.mono HW.out.size)
          clear g0 g1 g2 g3
          go_wp2_with fail
          go_ret
          exact bret_no (HB.out HOK.out) H1.out
        | true =>
          have HOK := hide hok
          clear hok
          by_cases hle : x.r ≤ y.r
          · have hle' : decide (x.r ≤ y.r) = true := decide_eq_true hle
            have HC := hide hle
            clear hle
            have CV : Hid (∀ z : World, Calls Try.prog 27 #[.agg #[.int .i64 x.k, .int .i64 x.r]] z fun e z' => e = .returned (.bool true) ∧ Below z.heap.size z z') := fun z => by have q := svalidItem_any x z; rw [HOK.out] at q; exact q
            have g0 := fun z : BW wr => bw_cell (p := ⟨b, off + (j + 1) * 2, none⟩) hbl E.out.1 z
            have g1 := fun z : BW wr => bw_cell (p := ⟨b, off + (j + 1) * 2 + 1, none⟩) hbl E.out.2 z
            have g2 := fun z : BW wr => bw_cell (p := ⟨b, off + j * 2, none⟩) hbl Ep.out.1 z
            have g3 := fun z : BW wr => bw_cell (p := ⟨b, off + j * 2 + 1, none⟩) hbl Ep.out.2 z
            go_wp2_with fail
            refine wp_region_bw (by kernel_rfl) (by kernel_rfl) ?_
            repeat (go_big_quiet_step (first | (go_at_call 27; with_reducible exact bw_of (CV.out _))))
            refine wpQuiet_nil ?_
            rintro _ ⟨z, rfl⟩
            have H1 : Hid (Below w.heap.size w z.v) := HW.out.trans (z.h.mono HW.out.size)
            clear g0 g1 g2 g3
            go_wp2_with fail
            go_ret
            exact bret_no (HB2.out HC.out) H1.out
          · have hle' : decide (x.r ≤ y.r) = false := decide_eq_false hle
            have HC := hide (Int.not_le.1 hle)
            clear hle
            have CV : Hid (∀ z : World, Calls Try.prog 27 #[.agg #[.int .i64 x.k, .int .i64 x.r]] z fun e z' => e = .returned (.bool true) ∧ Below z.heap.size z z') := fun z => by have q := svalidItem_any x z; rw [HOK.out] at q; exact q
            have g0 := fun z : BW wr => bw_cell (p := ⟨b, off + (j + 1) * 2, none⟩) hbl E.out.1 z
            have g1 := fun z : BW wr => bw_cell (p := ⟨b, off + (j + 1) * 2 + 1, none⟩) hbl E.out.2 z
            have g2 := fun z : BW wr => bw_cell (p := ⟨b, off + j * 2, none⟩) hbl Ep.out.1 z
            have g3 := fun z : BW wr => bw_cell (p := ⟨b, off + j * 2 + 1, none⟩) hbl Ep.out.2 z
            go_wp2_with fail
            refine wp_region_bw (by kernel_rfl) (by kernel_rfl) ?_
            repeat (go_big_quiet_step (first | (go_at_call 27; with_reducible exact bw_of (CV.out _))))
            refine wpQuiet_nil ?_
            rintro _ ⟨z, rfl⟩
            have H1 : Hid (Below w.heap.size w z.v) := HW.out.trans (z.h.mono HW.out.size)
            clear g0 g1 g2 g3
            go_wp2_with fail
            go_roundg (gk - 1)
            case measure => omega
            case rel => exact ⟨H1.out, j + 1 + 1, by omega, by go_num, sv_upto HP.out (HS.out HOK.out HC.out)⟩
    · have hkl : k = l.length := by omega
      subst hkl
      clear hd hbw
      by_cases h30 : (l.length : Int) ≤ 30
      · have d30 : decide ((l.length : Int) ≤ 30) = true := decide_eq_true h30
        have HY := hide (sv_all HP.out (by omega))
        go_wp2_with fail
        go_ret
        first | exact bret_yes HY.out HW.out | (rw [d30]; exact bret_yes HY.out HW.out)
      · have d30 : decide ((l.length : Int) ≤ 30) = false := decide_eq_false h30
        have HN : Hid (¬ vRows l) := fun h => by have := h.1; omega
        go_wp2_with fail
        go_ret
        first | exact bret_no HN.out HW.out | (rw [d30]; exact bret_no HN.out HW.out)
end Go.Proofs.Ytopdheombgajlaa
