/-
  validItems, inOrder, double, firstDouble and both DoubleKey; the walk of FnExactDoubleKey.
-/
import Derived.Test.YtmlphdniiiijpaaItem2
import Derived.BigQuiet
import Derived.Deep.QuietTactic
set_option linter.all false
namespace Go.Proofs.Ytmlphdniiiijpaa
open Go.RowKit
def stepI (l : List Itm) (i : Nat) : Prop := ∀ h : i < l.length, okI l[i] = true ∧ ∀ h0 : 0 < i, lessI (l[i - 1]'(by omega)) l[i] = true
def ordI (l : List Itm) : Prop := ∀ i, stepI l i
def Dbl (l : List Itm) (n : Int) : Prop :=
  (∃ j, ∃ h : j + 1 < l.length, l[j].k = l[j + 1].k ∧ n = l[j + 1].k ∧ ∀ i (h' : i < j), (l[i]'(by omega)).k ≠ (l[i + 1]'(by omega)).k) ∨ (n = -1 ∧ ∀ i (h : i + 1 < l.length), (l[i]'(by omega)).k ≠ l[i + 1].k)
theorem Dbl.uniq {l : List Itm} {n m : Int} (h : Dbl l n) (h' : Dbl l m) : n = m := by
  rcases h with ⟨j, hj, he, rfl, hn⟩ | ⟨rfl, hn⟩ <;> rcases h' with ⟨j', hj', he', rfl, hn'⟩ | ⟨rfl, hn'⟩
  · rcases Nat.lt_trichotomy j j' with h1 | h1 | h1
    · exact absurd he (hn' j h1)
    · subst h1; rfl
    · exact absurd he' (hn j' h1)
  · exact absurd he (hn' j hj)
  · exact absurd he' (hn j' hj')
  · rfl
def DK (l : List Itm) (n : Int) : Prop := ((ordI l ∧ l.length ≤ 30) ∧ Dbl l n) ∨ (¬ (ordI l ∧ l.length ≤ 30) ∧ n = -1)
theorem DK.uniq {l : List Itm} {n m : Int} (h : DK l n) (h' : DK l m) : n = m := by
  rcases h with ⟨h1, h2⟩ | ⟨h1, h2⟩ <;> rcases h' with ⟨h3, h4⟩ | ⟨h3, h4⟩
  · exact h2.uniq h4
  · exact absurd h1 h3
  · exact absurd h3 h1
  · rw [h2, h4]
theorem ord_bad {l : List Itm} {k : Nat} (hk : k < l.length) (h : okI l[k] = false) : ¬ ordI l := fun ho => by have := (ho k hk).1; rw [h] at this; cases this
theorem ord_bad2 {l : List Itm} {j : Nat} (hk : j + 1 < l.length) (h : lessI (l[j]'(by omega)) l[j + 1] = false) : ¬ ordI l := fun ho => by have := (ho (j + 1) hk).2 (by omega); simp at this; rw [h] at this; cases this
theorem step_0 {l : List Itm} (hk : 0 < l.length) (h : okI l[0] = true) : stepI l 0 := fun _ => ⟨h, fun h0 => by omega⟩
theorem step_s {l : List Itm} {j : Nat} (hk : j + 1 < l.length) (h : okI l[j + 1] = true) (h2 : lessI (l[j]'(by omega)) l[j + 1] = true) : stepI l (j + 1) := fun _ => ⟨h, fun h0 => by simpa using h2⟩
def BRet (w : World) (p : Prop) (e : Ending) (w' : World) : Prop := ∃ b, e = .returned (.bool b) ∧ (b = true ↔ p) ∧ Below w.heap.size w w'
set_option maxHeartbeats 8000000 in
theorem svalidItems_any (v : Value) (l : List Itm) (w : World) (h : Itms w v l) :
    Calls Try.prog 50 #[v] w (BRet w (ordI l ∧ l.length ≤ 30)) := by
  obtain ⟨a, cap, rfl, hl, hcap, hd⟩ := h
  go_enter Try.func50, Try.ntmps50
  go_wp2_with fail
  go_loopg [3] l.length (fun gk sk wr => Below w.heap.size w wr ∧ ∃ k : Nat, k + gk = l.length ∧ sk = .int .i64 (k : Int) ∧ ∀ i, i < k → stepI l i)
  case atStart => exact ⟨Below.refl _ _, 0, by omega, rfl, fun i hi => by omega⟩
  case round =>
    obtain ⟨hbw, k, hk, rfl, hP⟩ := hrel
    have HW := hide hbw
    have HP := hide hP
    clear hP
    by_cases hlt : k < l.length
    · obtain ⟨b, off, rfl, hbb, hcell⟩ := hd.resolve_left (by rintro rfl; simp at hlt)
      have hbl := Nat.lt_of_lt_of_le hbb hbw.size
      cases k with
      | zero =>
        have E : Hid (ItmAt wr b off l[0]) := by
          have q := (hcell 0 hlt).keep hbw
          rw [Nat.zero_mul, Nat.add_zero] at q
          exact q
        have HB := hide (fun h => ord_bad hlt h)
        have HS := hide (fun h => step_0 hlt h)
        clear hcell hd hbw
        generalize l[0] = x at *
        skip
        cases hok : okI x with
        | false =>
          have HOK := hide hok
          clear hok
          have CV : Hid (∀ z : World, Calls Try.prog 69 #[.agg #[.int .i64 x.k, .int .i64 x.r]] z fun e z' => e = .returned (.bool false) ∧ Below z.heap.size z z') := fun z => by have q := svalidItem_any x z; rw [HOK.out] at q; exact q
          go_wp2_with fail
          have g0 := fun z : BW wr => bw_cell (p := ⟨b, off, none⟩) hbl E.out.1 z
          have g1 := fun z : BW wr => bw_cell (p := ⟨b, off + 1, none⟩) hbl E.out.2 z
          refine wp_region_bw (by kernel_rfl) (by kernel_rfl) ?_
          repeat (go_big_quiet_step (first | (go_at_call 69; with_reducible exact bw_of (CV.out _)) | (go_at_call 72; with_reducible exact bw_of (CC.out _))))
          refine wpQuiet_nil ?_
          rintro _ ⟨z, rfl⟩
          have H1 : Hid (Below w.heap.size w z.v) := HW.out.trans (z.h.mono HW.out.size)
          clear g0 g1
          go_wp2_with fail
          go_ret
          exact ⟨false, rfl, ⟨fun h => absurd h (by simp), fun h => absurd h.1 (HB.out HOK.out)⟩, H1.out⟩
        | true =>
          have HOK := hide hok
          clear hok
          have CV : Hid (∀ z : World, Calls Try.prog 69 #[.agg #[.int .i64 x.k, .int .i64 x.r]] z fun e z' => e = .returned (.bool true) ∧ Below z.heap.size z z') := fun z => by have q := svalidItem_any x z; rw [HOK.out] at q; exact q
          go_wp2_with fail
          have g0 := fun z : BW wr => bw_cell (p := ⟨b, off, none⟩) hbl E.out.1 z
          have g1 := fun z : BW wr => bw_cell (p := ⟨b, off + 1, none⟩) hbl E.out.2 z
          refine wp_region_bw (by kernel_rfl) (by kernel_rfl) ?_
          repeat (go_big_quiet_step (first | (go_at_call 69; with_reducible exact bw_of (CV.out _)) | (go_at_call 72; with_reducible exact bw_of (CC.out _))))
          refine wpQuiet_nil ?_
          rintro _ ⟨z, rfl⟩
          have H1 : Hid (Below w.heap.size w z.v) := HW.out.trans (z.h.mono HW.out.size)
          clear g0 g1
          go_wp2_with fail
          go_roundg (gk - 1)
          case measure => omega
          case rel => exact ⟨H1.out, 0 + 1, by omega, by go_num, fun i hi => by
            by_cases hik : i = 0
            · subst hik; exact HS.out HOK.out
            · exact HP.out i (by omega)⟩
      | succ j =>
        have E := hide ((hcell (j + 1) hlt).keep hbw)
        have Ep := hide ((hcell j (by omega)).keep hbw)
        have HB := hide (fun h => ord_bad hlt h)
        have HB2 := hide (fun h => ord_bad2 hlt h)
        have HS := hide (fun h h2 => step_s hlt h h2)
        clear hcell hd hbw
        generalize l[j + 1] = x at *
        generalize l[j] = y at *
        have hj0 : decide ((0 : Int) < ((j + 1 : Nat) : Int)) = true := decide_eq_true (by omega)
        skip
        cases hok : okI x with
        | false =>
          have HOK := hide hok
          clear hok
          have CV : Hid (∀ z : World, Calls Try.prog 69 #[.agg #[.int .i64 x.k, .int .i64 x.r]] z fun e z' => e = .returned (.bool false) ∧ Below z.heap.size z z') := fun z => by have q := svalidItem_any x z; rw [HOK.out] at q; exact q
          go_wp2_with fail
          have g0 := fun z : BW wr => bw_cell (p := ⟨b, off + (j + 1) * 2, none⟩) hbl E.out.1 z
          have g1 := fun z : BW wr => bw_cell (p := ⟨b, off + (j + 1) * 2 + 1, none⟩) hbl E.out.2 z
          have g2 := fun z : BW wr => bw_cell (p := ⟨b, off + j * 2, none⟩) hbl Ep.out.1 z
          have g3 := fun z : BW wr => bw_cell (p := ⟨b, off + j * 2 + 1, none⟩) hbl Ep.out.2 z
          refine wp_region_bw (by kernel_rfl) (by kernel_rfl) ?_
          repeat (go_big_quiet_step (first | (go_at_call 69; with_reducible exact bw_of (CV.out _)) | (go_at_call 72; with_reducible exact bw_of (CC.out _))))
          refine wpQuiet_nil ?_
          rintro _ ⟨z, rfl⟩
          have H1 : Hid (Below w.heap.size w z.v) := HW.out.trans (z.h.mono HW.out.size)
          clear g0 g1 g2 g3
          go_wp2_with fail
          go_ret
          exact ⟨false, rfl, ⟨fun h => absurd h (by simp), fun h => absurd h.1 (HB.out HOK.out)⟩, H1.out⟩
        | true =>
          have HOK := hide hok
          clear hok
          cases hls : lessI y x with
          | false =>
            have HLS := hide hls
            clear hls
            have CV : Hid (∀ z : World, Calls Try.prog 69 #[.agg #[.int .i64 x.k, .int .i64 x.r]] z fun e z' => e = .returned (.bool true) ∧ Below z.heap.size z z') := fun z => by have q := svalidItem_any x z; rw [HOK.out] at q; exact q
            have CC : Hid (∀ z : World, Calls Try.prog 72 #[.agg #[.int .i64 y.k, .int .i64 y.r], .agg #[.int .i64 x.k, .int .i64 x.r]] z fun e z' => e = .returned (.bool false) ∧ Below z.heap.size z z') := fun z => by have q := slessItem_any y x z; rw [HLS.out] at q; exact q
            go_wp2_with fail
            have g0 := fun z : BW wr => bw_cell (p := ⟨b, off + (j + 1) * 2, none⟩) hbl E.out.1 z
            have g1 := fun z : BW wr => bw_cell (p := ⟨b, off + (j + 1) * 2 + 1, none⟩) hbl E.out.2 z
            have g2 := fun z : BW wr => bw_cell (p := ⟨b, off + j * 2, none⟩) hbl Ep.out.1 z
            have g3 := fun z : BW wr => bw_cell (p := ⟨b, off + j * 2 + 1, none⟩) hbl Ep.out.2 z
            refine wp_region_bw (by kernel_rfl) (by kernel_rfl) ?_
            repeat (go_big_quiet_step (first | (go_at_call 69; with_reducible exact bw_of (CV.out _)) | (go_at_call 72; with_reducible exact bw_of (CC.out _))))
            refine wpQuiet_nil ?_
            rintro _ ⟨z, rfl⟩
            have H1 : Hid (Below w.heap.size w z.v) := HW.out.trans (z.h.mono HW.out.size)
            clear g0 g1 g2 g3
            go_wp2_with fail
            go_ret
            exact ⟨false, rfl, ⟨fun h => absurd h (by simp), fun h => absurd h.1 (HB2.out HLS.out)⟩, H1.out⟩
          | true =>
            have HLS := hide hls
            clear hls
            have CV : Hid (∀ z : World, Calls Try.prog 69 #[.agg #[.int .i64 x.k, .int .i64 x.r]] z fun e z' => e = .returned (.bool true) ∧ Below z.heap.size z z') := fun z => by have q := svalidItem_any x z; rw [HOK.out] at q; exact q
            have CC : Hid (∀ z : World, Calls Try.prog 72 #[.agg #[.int .i64 y.k, .int .i64 y.r], .agg #[.int .i64 x.k, .int .i64 x.r]] z fun e z' => e = .returned (.bool true) ∧ Below z.heap.size z z') := fun z => by have q := slessItem_any y x z; rw [HLS.out] at q; exact q
            go_wp2_with fail
            have g0 := fun z : BW wr => bw_cell (p := ⟨b, off + (j + 1) * 2, none⟩) hbl E.out.1 z
            have g1 := fun z : BW wr => bw_cell (p := ⟨b, off + (j + 1) * 2 + 1, none⟩) hbl E.out.2 z
            have g2 := fun z : BW wr => bw_cell (p := ⟨b, off + j * 2, none⟩) hbl Ep.out.1 z
            have g3 := fun z : BW wr => bw_cell (p := ⟨b, off + j * 2 + 1, none⟩) hbl Ep.out.2 z
            refine wp_region_bw (by kernel_rfl) (by kernel_rfl) ?_
            repeat (go_big_quiet_step (first | (go_at_call 69; with_reducible exact bw_of (CV.out _)) | (go_at_call 72; with_reducible exact bw_of (CC.out _))))
            refine wpQuiet_nil ?_
            rintro _ ⟨z, rfl⟩
            have H1 : Hid (Below w.heap.size w z.v) := HW.out.trans (z.h.mono HW.out.size)
            clear g0 g1 g2 g3
            go_wp2_with fail
            go_roundg (gk - 1)
            case measure => omega
            case rel => exact ⟨H1.out, (j + 1) + 1, by omega, by go_num, fun i hi => by
              by_cases hik : i = (j + 1)
              · subst hik; exact HS.out HOK.out HLS.out
              · exact HP.out i (by omega)⟩
    · have hkl : k = l.length := by omega
      have HE := hide hkl
      have HA : Hid (ordI l) := fun i h => HP.out i (by have := HE.out; omega) h
      clear hd hbw
      go_wp2_with fail
      go_ret
      exact ⟨_, rfl, ⟨fun h => ⟨HA.out, by have := of_decide_eq_true h; omega⟩, fun h => decide_eq_true (by have := h.2; omega)⟩, HW.out⟩
set_option maxHeartbeats 8000000 in
theorem inOrder_any (v : Value) (l : List Itm) (w : World) (h : Itms w v l) :
    Calls Try.prog 41 #[v] w (BRet w (ordI l)) := by
  obtain ⟨a, cap, rfl, hl, hcap, hd⟩ := h
  go_enter Try.func41, Try.ntmps41
  go_wp2_with fail
  go_loopg [7] l.length (fun gk sk wr => Below w.heap.size w wr ∧ ∃ k : Nat, k + gk = l.length ∧ sk = .int .i64 (k : Int) ∧ ∀ i, i < k → stepI l i)
  case atStart => exact ⟨Below.refl _ _, 0, by omega, rfl, fun i hi => by omega⟩
  case round =>
    obtain ⟨hbw, k, hk, rfl, hP⟩ := hrel
    have HW := hide hbw
    have HP := hide hP
    clear hP
    by_cases hlt : k < l.length
    · obtain ⟨b, off, rfl, hbb, hcell⟩ := hd.resolve_left (by rintro rfl; simp at hlt)
      have hbl := Nat.lt_of_lt_of_le hbb hbw.size
      cases k with
      | zero =>
        have E : Hid (ItmAt wr b off l[0]) := by
          have q := (hcell 0 hlt).keep hbw
          rw [Nat.zero_mul, Nat.add_zero] at q
          exact q
        have HB := hide (fun h => ord_bad hlt h)
        have HS := hide (fun h => step_0 hlt h)
        clear hcell hd hbw
        generalize l[0] = x at *
        obtain ⟨e0, e1⟩ := E.out
        cases hok : okI x with
        | false =>
          have HOK := hide hok
          clear hok
          have CV : Hid (∀ z : World, Calls Try.prog 67 #[.agg #[.int .i64 x.k, .int .i64 x.r]] z fun e z' => e = .returned (.bool false) ∧ Below z.heap.size z z') := fun z => by have q := ivalid_any x z; rw [HOK.out] at q; exact q
          go_wp2_with fail
          have HX := hide (blk_alloc wr (.cells #[.int .i64 x.k, .int .i64 x.r] 38))
          have HK := hide (below_box wr (.cells #[.int .i64 x.k, .int .i64 x.r] 38))
          have HWB : Hid (Below w.heap.size w (wr.alloc (.cells #[.int .i64 x.k, .int .i64 x.r] 38))) := HW.out.trans (HK.out.mono HW.out.size)
          have hbl2 : wr.heap.size < (wr.alloc (.cells #[.int .i64 x.k, .int .i64 x.r] 38)).heap.size := lt_block HX.out
          have hbl3 : b < (wr.alloc (.cells #[.int .i64 x.k, .int .i64 x.r] 38)).heap.size := Nat.lt_trans hbl hbl2
          obtain ⟨WB, hWB⟩ : ∃ W, W = wr.alloc (.cells #[.int .i64 x.k, .int .i64 x.r] 38) := ⟨_, rfl⟩
          rw [← hWB] at HX HWB hbl2 hbl3
          rw [← hWB]
          clear hWB HK
          have g0 := fun z : BW WB => bw_cell (p := ⟨wr.heap.size, 0, none⟩) hbl2 (cell_block HX.out 0) z
          have g1 := fun z : BW WB => bw_cell (p := ⟨wr.heap.size, 1, none⟩) hbl2 (cell_block HX.out 1) z
          refine wp_region_bw (by kernel_rfl) (by kernel_rfl) ?_
          repeat (go_big_quiet_step (first | (go_at_call 67; with_reducible exact bw_of (CV.out _)) | (go_at_call 55; with_reducible exact bw_of (CC.out _))))
          refine wpQuiet_nil ?_
          rintro _ ⟨z, rfl⟩
          have H1 : Hid (Below w.heap.size w z.v) := HWB.out.trans (z.h.mono HWB.out.size)
          clear g0 g1
          go_wp2_with fail
          go_ret
          exact ⟨false, rfl, ⟨fun h => absurd h (by simp), fun h => absurd h (HB.out HOK.out)⟩, H1.out⟩
        | true =>
          have HOK := hide hok
          clear hok
          have CV : Hid (∀ z : World, Calls Try.prog 67 #[.agg #[.int .i64 x.k, .int .i64 x.r]] z fun e z' => e = .returned (.bool true) ∧ Below z.heap.size z z') := fun z => by have q := ivalid_any x z; rw [HOK.out] at q; exact q
          go_wp2_with fail
          have HX := hide (blk_alloc wr (.cells #[.int .i64 x.k, .int .i64 x.r] 38))
          have HK := hide (below_box wr (.cells #[.int .i64 x.k, .int .i64 x.r] 38))
          have HWB : Hid (Below w.heap.size w (wr.alloc (.cells #[.int .i64 x.k, .int .i64 x.r] 38))) := HW.out.trans (HK.out.mono HW.out.size)
          have hbl2 : wr.heap.size < (wr.alloc (.cells #[.int .i64 x.k, .int .i64 x.r] 38)).heap.size := lt_block HX.out
          have hbl3 : b < (wr.alloc (.cells #[.int .i64 x.k, .int .i64 x.r] 38)).heap.size := Nat.lt_trans hbl hbl2
          obtain ⟨WB, hWB⟩ : ∃ W, W = wr.alloc (.cells #[.int .i64 x.k, .int .i64 x.r] 38) := ⟨_, rfl⟩
          rw [← hWB] at HX HWB hbl2 hbl3
          rw [← hWB]
          clear hWB HK
          have g0 := fun z : BW WB => bw_cell (p := ⟨wr.heap.size, 0, none⟩) hbl2 (cell_block HX.out 0) z
          have g1 := fun z : BW WB => bw_cell (p := ⟨wr.heap.size, 1, none⟩) hbl2 (cell_block HX.out 1) z
          refine wp_region_bw (by kernel_rfl) (by kernel_rfl) ?_
          repeat (go_big_quiet_step (first | (go_at_call 67; with_reducible exact bw_of (CV.out _)) | (go_at_call 55; with_reducible exact bw_of (CC.out _))))
          refine wpQuiet_nil ?_
          rintro _ ⟨z, rfl⟩
          have H1 : Hid (Below w.heap.size w z.v) := HWB.out.trans (z.h.mono HWB.out.size)
          clear g0 g1
          go_wp2_with fail
          go_roundg (gk - 1)
          case measure => omega
          case rel => exact ⟨H1.out, 0 + 1, by omega, by go_num, fun i hi => by
            by_cases hik : i = 0
            · subst hik; exact HS.out HOK.out
            · exact HP.out i (by omega)⟩
      | succ j =>
        have E := hide ((hcell (j + 1) hlt).keep hbw)
        have Ep := hide ((hcell j (by omega)).keep hbw)
        have HB := hide (fun h => ord_bad hlt h)
        have HB2 := hide (fun h => ord_bad2 hlt h)
        have HS := hide (fun h h2 => step_s hlt h h2)
        clear hcell hd hbw
        generalize l[j + 1] = x at *
        generalize l[j] = y at *
        have hj0 : decide ((0 : Int) < ((j + 1 : Nat) : Int)) = true := decide_eq_true (by omega)
        obtain ⟨e0, e1⟩ := E.out
        cases hok : okI x with
        | false =>
          have HOK := hide hok
          clear hok
          have CV : Hid (∀ z : World, Calls Try.prog 67 #[.agg #[.int .i64 x.k, .int .i64 x.r]] z fun e z' => e = .returned (.bool false) ∧ Below z.heap.size z z') := fun z => by have q := ivalid_any x z; rw [HOK.out] at q; exact q
          go_wp2_with fail
          have HX := hide (blk_alloc wr (.cells #[.int .i64 x.k, .int .i64 x.r] 38))
          have HK := hide (below_box wr (.cells #[.int .i64 x.k, .int .i64 x.r] 38))
          have HWB : Hid (Below w.heap.size w (wr.alloc (.cells #[.int .i64 x.k, .int .i64 x.r] 38))) := HW.out.trans (HK.out.mono HW.out.size)
          have hbl2 : wr.heap.size < (wr.alloc (.cells #[.int .i64 x.k, .int .i64 x.r] 38)).heap.size := lt_block HX.out
          have hbl3 : b < (wr.alloc (.cells #[.int .i64 x.k, .int .i64 x.r] 38)).heap.size := Nat.lt_trans hbl hbl2
          have Ep2 := hide (Ep.out.keep HK.out)
          obtain ⟨WB, hWB⟩ : ∃ W, W = wr.alloc (.cells #[.int .i64 x.k, .int .i64 x.r] 38) := ⟨_, rfl⟩
          rw [← hWB] at HX HWB hbl2 hbl3 Ep2
          rw [← hWB]
          clear hWB HK
          have g0 := fun z : BW WB => bw_cell (p := ⟨wr.heap.size, 0, none⟩) hbl2 (cell_block HX.out 0) z
          have g1 := fun z : BW WB => bw_cell (p := ⟨wr.heap.size, 1, none⟩) hbl2 (cell_block HX.out 1) z
          have g2 := fun z : BW WB => bw_cell (p := ⟨b, off + j * 2, none⟩) hbl3 Ep2.out.1 z
          have g3 := fun z : BW WB => bw_cell (p := ⟨b, off + j * 2 + 1, none⟩) hbl3 Ep2.out.2 z
          refine wp_region_bw (by kernel_rfl) (by kernel_rfl) ?_
          repeat (go_big_quiet_step (first | (go_at_call 67; with_reducible exact bw_of (CV.out _)) | (go_at_call 55; with_reducible exact bw_of (CC.out _))))
          refine wpQuiet_nil ?_
          rintro _ ⟨z, rfl⟩
          have H1 : Hid (Below w.heap.size w z.v) := HWB.out.trans (z.h.mono HWB.out.size)
          clear g0 g1 g2 g3
          go_wp2_with fail
          go_ret
          exact ⟨false, rfl, ⟨fun h => absurd h (by simp), fun h => absurd h (HB.out HOK.out)⟩, H1.out⟩
        | true =>
          have HOK := hide hok
          clear hok
          cases hls : lessI y x with
          | false =>
            have HLS := hide hls
            clear hls
            have CV : Hid (∀ z : World, Calls Try.prog 67 #[.agg #[.int .i64 x.k, .int .i64 x.r]] z fun e z' => e = .returned (.bool true) ∧ Below z.heap.size z z') := fun z => by have q := ivalid_any x z; rw [HOK.out] at q; exact q
            have CC : Hid (∀ z : World, Calls Try.prog 55 #[.agg #[.int .i64 y.k, .int .i64 y.r], .agg #[.int .i64 x.k, .int .i64 x.r]] z fun e z' => e = .returned (.int .i64 (cmpI y x)) ∧ Below z.heap.size z z') := fun z => compareItems_any y x z
            have hcm : decide (0 ≤ cmpI y x) = true := by have q := cmpI_less y x; rw [HLS.out] at q; simpa using q.symm
            go_wp2_with fail
            have HX := hide (blk_alloc wr (.cells #[.int .i64 x.k, .int .i64 x.r] 38))
            have HK := hide (below_box wr (.cells #[.int .i64 x.k, .int .i64 x.r] 38))
            have HWB : Hid (Below w.heap.size w (wr.alloc (.cells #[.int .i64 x.k, .int .i64 x.r] 38))) := HW.out.trans (HK.out.mono HW.out.size)
            have hbl2 : wr.heap.size < (wr.alloc (.cells #[.int .i64 x.k, .int .i64 x.r] 38)).heap.size := lt_block HX.out
            have hbl3 : b < (wr.alloc (.cells #[.int .i64 x.k, .int .i64 x.r] 38)).heap.size := Nat.lt_trans hbl hbl2
            have Ep2 := hide (Ep.out.keep HK.out)
            obtain ⟨WB, hWB⟩ : ∃ W, W = wr.alloc (.cells #[.int .i64 x.k, .int .i64 x.r] 38) := ⟨_, rfl⟩
            rw [← hWB] at HX HWB hbl2 hbl3 Ep2
            rw [← hWB]
            clear hWB HK
            have g0 := fun z : BW WB => bw_cell (p := ⟨wr.heap.size, 0, none⟩) hbl2 (cell_block HX.out 0) z
            have g1 := fun z : BW WB => bw_cell (p := ⟨wr.heap.size, 1, none⟩) hbl2 (cell_block HX.out 1) z
            have g2 := fun z : BW WB => bw_cell (p := ⟨b, off + j * 2, none⟩) hbl3 Ep2.out.1 z
            have g3 := fun z : BW WB => bw_cell (p := ⟨b, off + j * 2 + 1, none⟩) hbl3 Ep2.out.2 z
            refine wp_region_bw (by kernel_rfl) (by kernel_rfl) ?_
            repeat (go_big_quiet_step (first | (go_at_call 67; with_reducible exact bw_of (CV.out _)) | (go_at_call 55; with_reducible exact bw_of (CC.out _))))
            refine wpQuiet_nil ?_
            rintro _ ⟨z, rfl⟩
            have H1 : Hid (Below w.heap.size w z.v) := HWB.out.trans (z.h.mono HWB.out.size)
            clear g0 g1 g2 g3
            go_wp2_with fail
            go_ret
            exact ⟨false, rfl, ⟨fun h => absurd h (by simp), fun h => absurd h (HB2.out HLS.out)⟩, H1.out⟩
          | true =>
            have HLS := hide hls
            clear hls
            have CV : Hid (∀ z : World, Calls Try.prog 67 #[.agg #[.int .i64 x.k, .int .i64 x.r]] z fun e z' => e = .returned (.bool true) ∧ Below z.heap.size z z') := fun z => by have q := ivalid_any x z; rw [HOK.out] at q; exact q
            have CC : Hid (∀ z : World, Calls Try.prog 55 #[.agg #[.int .i64 y.k, .int .i64 y.r], .agg #[.int .i64 x.k, .int .i64 x.r]] z fun e z' => e = .returned (.int .i64 (cmpI y x)) ∧ Below z.heap.size z z') := fun z => compareItems_any y x z
            have hcm : decide (0 ≤ cmpI y x) = false := by have q := cmpI_less y x; rw [HLS.out] at q; simpa using q.symm
            go_wp2_with fail
            have HX := hide (blk_alloc wr (.cells #[.int .i64 x.k, .int .i64 x.r] 38))
            have HK := hide (below_box wr (.cells #[.int .i64 x.k, .int .i64 x.r] 38))
            have HWB : Hid (Below w.heap.size w (wr.alloc (.cells #[.int .i64 x.k, .int .i64 x.r] 38))) := HW.out.trans (HK.out.mono HW.out.size)
            have hbl2 : wr.heap.size < (wr.alloc (.cells #[.int .i64 x.k, .int .i64 x.r] 38)).heap.size := lt_block HX.out
            have hbl3 : b < (wr.alloc (.cells #[.int .i64 x.k, .int .i64 x.r] 38)).heap.size := Nat.lt_trans hbl hbl2
            have Ep2 := hide (Ep.out.keep HK.out)
            obtain ⟨WB, hWB⟩ : ∃ W, W = wr.alloc (.cells #[.int .i64 x.k, .int .i64 x.r] 38) := ⟨_, rfl⟩
            rw [← hWB] at HX HWB hbl2 hbl3 Ep2
            rw [← hWB]
            clear hWB HK
            have g0 := fun z : BW WB => bw_cell (p := ⟨wr.heap.size, 0, none⟩) hbl2 (cell_block HX.out 0) z
            have g1 := fun z : BW WB => bw_cell (p := ⟨wr.heap.size, 1, none⟩) hbl2 (cell_block HX.out 1) z
            have g2 := fun z : BW WB => bw_cell (p := ⟨b, off + j * 2, none⟩) hbl3 Ep2.out.1 z
            have g3 := fun z : BW WB => bw_cell (p := ⟨b, off + j * 2 + 1, none⟩) hbl3 Ep2.out.2 z
            refine wp_region_bw (by kernel_rfl) (by kernel_rfl) ?_
            repeat (go_big_quiet_step (first | (go_at_call 67; with_reducible exact bw_of (CV.out _)) | (go_at_call 55; with_reducible exact bw_of (CC.out _))))
            refine wpQuiet_nil ?_
            rintro _ ⟨z, rfl⟩
            have H1 : Hid (Below w.heap.size w z.v) := HWB.out.trans (z.h.mono HWB.out.size)
            clear g0 g1 g2 g3
            go_wp2_with fail
            go_roundg (gk - 1)
            case measure => omega
            case rel => exact ⟨H1.out, (j + 1) + 1, by omega, by go_num, fun i hi => by
              by_cases hik : i = (j + 1)
              · subst hik; exact HS.out HOK.out HLS.out
              · exact HP.out i (by omega)⟩
    · have hkl : k = l.length := by omega
      have HE := hide hkl
      have HA : Hid (ordI l) := fun i h => HP.out i (by have := HE.out; omega) h
      clear hd hbw
      go_wp2_with fail
      go_ret
      exact ⟨true, rfl, ⟨fun _ => HA.out, fun _ => rfl⟩, HW.out⟩
end Go.Proofs.Ytmlphdniiiijpaa
