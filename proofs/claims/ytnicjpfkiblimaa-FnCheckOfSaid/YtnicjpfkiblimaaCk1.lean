/-
  Numbers and notes of the generators: allIn, validStore, validEdit, free; append of any row of numbers.
-/
import Derived.Test.YtnicjpfkiblimaaChk6
import Derived.Test.YtnicjpfkiblimaaNoteOwn
import Derived.Test.YtnicjpfkiblimaaCellOwn
import Derived.Test.YtnicjpfkiblimaaReader
import Derived.Deep.LoopGhost
set_option linter.all false
namespace Go.Proofs.Ytnicjpfkiblimaa
open Go.RowKit
/-- a bool that shows something if it is true -/
def TB (w : World) (p : Prop) (e : Ending) (w' : World) : Prop := ∃ b, e = .returned (.bool b) ∧ (b = true → p) ∧ Below w.heap.size w w'
theorem tb_no {w w' : World} {p : Prop} (hb : Below w.heap.size w w') : TB w p (.returned (.bool false)) w' := ⟨false, rfl, fun h => (by cases h), hb⟩
theorem tb_yes {w w' : World} {p : Prop} (h : p) (hb : Below w.heap.size w w') : TB w p (.returned (.bool true)) w' := ⟨true, rfl, fun _ => h, hb⟩
theorem tb_any {w w' : World} {b : Bool} (hb : Below w.heap.size w w') : TB w True (.returned (.bool b)) w' := ⟨b, rfl, fun _ => trivial, hb⟩
def NilOk (v : Value) : Prop := ∀ n c, v = .slice none n c → c = 0
theorem below_box (w : World) (o : Obj) : Below w.heap.size w (w.alloc o) := (Below.refl _ _).alloc (Nat.le_refl _) _
theorem below_box2 (w : World) (o o' : Obj) : Below w.heap.size w ((w.alloc o).alloc o') := (below_box w o).alloc (by simp) _
theorem num_shape {w : World} {v : Value} {ns : List Int} (h : Nums w v ns) : ∃ a c, v = .slice a ns.length c := by
  obtain ⟨a, c, rfl, -⟩ := h
  exact ⟨a, c, rfl⟩
theorem own_shape {B size n : Nat} {e : TypeId} {w : World} {v : Value} {xs : List Value} (h : w.ownsRow B e size v n xs) : ∃ a c, v = .slice a n c ∧ n ≤ c ∧ c ≤ 9223372036854775807 := by
  rcases h.2 with ⟨rfl, rfl⟩ | ⟨g, cap, cur, rfl, _, _, h1, h2, _⟩
  · exact ⟨none, 0, rfl, by omega, by omega⟩
  · exact ⟨_, cap, rfl, h1, by unfold maxLen at h2; omega⟩
set_option maxHeartbeats 2000000 in
theorem allIn_any (v : Value) (ns : List Int) (lo hi : Int) (w : World) (h : Nums w v ns) :
    Calls Try.prog 34 #[v, .int .i64 lo, .int .i64 hi] w (TB w (∀ i (h : i < ns.length), lo ≤ ns[i] ∧ ns[i] ≤ hi)) := by
  obtain ⟨a, cap, rfl, hl, hcap, hd⟩ := h
  go_enter Try.func34, Try.ntmps34
  go_wp2_with fail
  go_loopg [7] ns.length (fun gk s7 wr => Below w.heap.size w wr ∧ ∃ k : Nat, k + gk = ns.length ∧ s7 = .int .i64 (k : Int) ∧ ∀ i (h : i < ns.length), i < k → lo ≤ ns[i] ∧ ns[i] ≤ hi)
  case atStart => exact ⟨Below.refl _ _, 0, by omega, rfl, fun i _ h => by omega⟩
  case round =>
    obtain ⟨hbw, k, hk, rfl, hall⟩ := hrel
    have HW := hide hbw
    have HA := hide hall
    clear hall
    by_cases hlt : k < ns.length
    · obtain ⟨b, off, rfl, hbb, hcell⟩ := hd.resolve_left (by rintro rfl; simp at hlt)
      have e0 := (hbw.cell hbb).trans (hcell k hlt)
      have HR := hide (inRange_any ns[k] lo hi wr)
      have HN : Hid ((lo ≤ ns[k] ∧ ns[k] ≤ hi) → ∀ i (h : i < ns.length), i < k + 1 → lo ≤ ns[i] ∧ ns[i] ≤ hi) := fun hq i hi' hik => by
        rcases Nat.lt_or_ge i k with q | q
        · exact HA.out i hi' q
        · obtain rfl : i = k := by omega
          exact hq
      clear hcell hd hbw
      generalize ns[k] = x at *
      by_cases hq : lo ≤ x ∧ x ≤ hi
      · have HN1 := hide (HN.out hq)
        rw [decide_eq_true hq] at HR
        clear hq HN
        go_wp2_with fail
        refine HR.out.mono ?_
        rintro e w2 ⟨rfl, rfl⟩
        go_wp2_with fail
        go_roundg (gk - 1)
        case measure => omega
        case rel => exact ⟨HW.out, k + 1, by omega, by go_num, HN1.out⟩
      · rw [decide_eq_false hq] at HR
        clear hq HN
        go_wp2_with fail
        refine HR.out.mono ?_
        rintro e w2 ⟨rfl, rfl⟩
        go_wp2_with fail
        go_ret
        exact tb_no HW.out
    · have hkl : k = ns.length := by omega
      subst hkl
      have HF : Hid (∀ i (h : i < ns.length), lo ≤ ns[i] ∧ ns[i] ≤ hi) := fun i h => HA.out i h h
      clear hd hbw
      go_wp2_with fail
      go_ret
      exact tb_yes HF.out HW.out
theorem validStore_any (v : Value) (ns : List Int) (w : World) (h : Nums w v ns) :
    Calls Try.prog 38 #[v] w (TB w (1 ≤ ns.length ∧ ns.length ≤ 6)) := by
  have HV := hide h
  obtain ⟨a, cap, rfl, hl, hcap, -⟩ := h
  have HR := hide (inRange_any (ns.length : Int) 1 6 w)
  go_enter Try.func38, Try.ntmps38
  by_cases hq : 1 ≤ ns.length ∧ ns.length ≤ 6
  · have HQ := hide hq
    rw [decide_eq_true (by omega)] at HR
    clear hq
    go_wp2_with fail
    refine HR.out.mono ?_
    rintro e w2 ⟨rfl, rfl⟩
    go_wp2_with fail
    refine (allIn_any _ ns 0 999999 _ HV.out).mono ?_
    rintro e w2 ⟨b, rfl, -, hb⟩
    have H := hide hb
    clear hb
    go_wp2_with fail
    go_ret
    exact ⟨_, rfl, fun _ => HQ.out, H.out⟩
  · rw [decide_eq_false (by omega)] at HR
    clear hq
    go_wp2_with fail
    refine HR.out.mono ?_
    rintro e w2 ⟨rfl, rfl⟩
    go_wp2_with fail
    go_ret
    exact tb_no (Below.refl _ _)
def busyN (l : List RNote) (t o : Int) (n : RNote) : Bool := !n.fin && (n.thing == t && (n.owner != o && !endB l n.owner))
def freeB (l : List RNote) (t o : Int) : Bool := l.all fun n => !busyN l t o n
theorem freeB_no {l : List RNote} {t o : Int} {k : Nat} (hk : k < l.length) (h : busyN l t o l[k] = true) : freeB l t o = false := by
  cases q : freeB l t o with
  | false => rfl
  | true =>
    unfold freeB at q
    have := List.all_eq_true.1 q _ (List.getElem_mem hk)
    rw [h] at this; cases this
theorem freeB_yes {l : List RNote} {t o : Int} (h : ∀ i (h : i < l.length), busyN l t o l[i] = false) : freeB l t o = true := by
  unfold freeB
  rw [List.all_eq_true]
  intro x hx
  obtain ⟨i, hi, rfl⟩ := List.getElem_of_mem hx
  rw [h i hi]; rfl
set_option maxHeartbeats 8000000 in
theorem free_any (v : Value) (l : List RNote) (t o : Int) (w : World) (h : Notes w v l) :
    Calls Try.prog 40 #[v, .int .i64 t, .int .i64 o] w fun e w' => e = .returned (.bool (freeB l t o)) ∧ w = w' := by
  have HV := hide h
  obtain ⟨a, cap, rfl, hl, hcap, hd⟩ := h
  have HE := hide (fun t => ended_any (.slice a l.length cap) l t w HV.out)
  obtain ⟨R, hR⟩ : ∃ R, R = freeB l t o := ⟨_, rfl⟩
  rw [← hR]
  have HR := hide hR
  clear hR
  go_enter Try.func40, Try.ntmps40
  go_wp2_with fail
  go_loopg [7] l.length (fun gk s7 wr => w = wr ∧ ∃ k : Nat, k + gk = l.length ∧ s7 = .int .i64 (k : Int) ∧ ∀ i (h : i < l.length), i < k → busyN l t o l[i] = false)
  case atStart => exact ⟨rfl, 0, by omega, rfl, fun i _ h => by omega⟩
  case round =>
    obtain ⟨rfl, k, hk, rfl, hno⟩ := hrel
    have HN := hide hno
    clear hno
    by_cases hlt : k < l.length
    · obtain ⟨b, off, rfl, hbb, hcell⟩ := hd.resolve_left (by rintro rfl; simp at hlt)
      have E := hide (hcell k hlt)
      have HS : Hid (busyN l t o l[k] = false → ∀ i (h : i < l.length), i < k + 1 → busyN l t o l[i] = false) := fun hq i hi' hik => by
        rcases Nat.lt_or_ge i k with q | q
        · exact HN.out i hi' q
        · obtain rfl : i = k := by omega
          exact hq
      have HB := hide (fun h => freeB_no (t := t) (o := o) hlt h)
      clear hcell hd HN
      generalize l[k] = y at *
      obtain ⟨fin, ow, th, od, nw⟩ := y
      obtain ⟨e0, e1, e2, -, -⟩ := E.out
      simp only at e0 e1 e2
      cases fin with
      | true =>
        have HS := hide (HS.out rfl)
        clear HB
        go_wp2_with fail
        go_roundg (gk - 1)
        case measure => omega
        case rel => exact ⟨rfl, k + 1, by omega, by go_num, HS.out⟩
      | false =>
        cases h1 : (th == t) with
        | false =>
          have HS := hide (HS.out (by simp [busyN, h1]))
          clear HB
          go_wp2_with fail
          go_roundg (gk - 1)
          case measure => omega
          case rel => exact ⟨rfl, k + 1, by omega, by go_num, HS.out⟩
        | true =>
          cases h2 : (ow != o) with
          | false =>
            have HS := hide (HS.out (by unfold busyN; simp only [h2]; simp))
            clear HB
            go_wp2_with fail
            go_roundg (gk - 1)
            case measure => omega
            case rel => exact ⟨rfl, k + 1, by omega, by go_num, HS.out⟩
          | true =>
            have HE := hide (HE.out ow)
            have HS1 : Hid (endB l ow = true → ∀ i (h : i < l.length), i < k + 1 → busyN l t o l[i] = false) := fun q => HS.out (by unfold busyN; simp only [q]; simp)
            have HB1 : Hid (endB l ow = false → freeB l t o = false) := fun q => HB.out (by unfold busyN; simp only [q, h1, h2]; rfl)
            clear HS HB
            generalize endB l ow = q at *
            go_wp2_with fail
            refine HE.out.mono ?_
            rintro e w2 ⟨rfl, rfl⟩
            cases q with
            | true =>
              have HS := hide (HS1.out rfl)
              go_wp2_with fail
              go_roundg (gk - 1)
              case measure => omega
              case rel => exact ⟨rfl, k + 1, by omega, by go_num, HS.out⟩
            | false =>
              have HB := hide (HB1.out rfl)
              go_wp2_with fail
              go_ret
              exact ⟨ret_bool (HR.out.trans HB.out).symm, rfl⟩
    · have hkl : k = l.length := by omega
      subst hkl
      have HF := hide (freeB_yes (fun i h => HN.out i h h))
      clear hd
      go_wp2_with fail
      go_ret
      exact ⟨ret_bool (HR.out.trans HF.out).symm, rfl⟩
def editB (ns : List Int) (ow th od nw : Int) : Bool := decide (0 ≤ ow ∧ ow ≤ 7) && (decide (0 ≤ th ∧ th ≤ (ns.length : Int) - 1) && ((ns.getD th.toNat 0 == od) && decide (0 ≤ nw ∧ nw ≤ 999999)))
theorem editB_in {ns : List Int} {ow th od nw : Int} (h : editB ns ow th od nw = true) : 0 ≤ th ∧ th < (ns.length : Int) := by
  unfold editB at h
  simp only [Bool.and_eq_true, decide_eq_true_eq] at h
  omega
theorem inR_bw (n lo hi : Int) (q : Bool) (hq : decide (lo ≤ n ∧ n ≤ hi) = q) (W : World) (z : BW W) : Calls Try.prog 27 #[.int .i64 n, .int .i64 lo, .int .i64 hi] z.v fun e z' => e = .returned (.bool q) ∧ Below z.v.heap.size z.v z' :=
  (inRange_any n lo hi z.v).mono fun _ _ ⟨h1, h2⟩ => ⟨by rw [h1, hq], by rw [← h2]; exact Below.refl _ _⟩
set_option maxHeartbeats 16000000 in
theorem validEdit_any (v : Value) (ns : List Int) (ow th od nw : Int) (w : World) (h : Nums w v ns) (hn : ns.length ≤ 1000) :
    Calls Try.prog 39 #[v, .agg #[.int .i64 ow, .int .i64 th, .int .i64 od, .int .i64 nw]] w fun e w' => e = .returned (.bool (editB ns ow th od nw)) ∧ Below w.heap.size w w' := by
  obtain ⟨a, cap, rfl, hl, hcap, hd⟩ := h
  obtain ⟨R, hR⟩ : ∃ R, R = editB ns ow th od nw := ⟨_, rfl⟩
  rw [← hR]
  have HR := hide hR
  clear hR
  have HB := hide (below_box w (.cells #[.int .i64 ow, .int .i64 th, .int .i64 od, .int .i64 nw] 72))
  have hbs : w.heap.size < (w.alloc (.cells #[.int .i64 ow, .int .i64 th, .int .i64 od, .int .i64 nw] 72)).heap.size := by simp
  have HX := hide (blk_alloc w (.cells #[.int .i64 ow, .int .i64 th, .int .i64 od, .int .i64 nw] 72))
  have g0 := fun z : BW (w.alloc (.cells #[.int .i64 ow, .int .i64 th, .int .i64 od, .int .i64 nw] 72)) => bw_cell (p := ⟨w.heap.size, 0, none⟩) hbs (cell_block HX.out 0) z
  have g1 := fun z : BW (w.alloc (.cells #[.int .i64 ow, .int .i64 th, .int .i64 od, .int .i64 nw] 72)) => bw_cell (p := ⟨w.heap.size, 1, none⟩) hbs (cell_block HX.out 1) z
  have g2 := fun z : BW (w.alloc (.cells #[.int .i64 ow, .int .i64 th, .int .i64 od, .int .i64 nw] 72)) => bw_cell (p := ⟨w.heap.size, 2, none⟩) hbs (cell_block HX.out 2) z
  have g3 := fun z : BW (w.alloc (.cells #[.int .i64 ow, .int .i64 th, .int .i64 od, .int .i64 nw] 72)) => bw_cell (p := ⟨w.heap.size, 3, none⟩) hbs (cell_block HX.out 3) z
  have C1 := hide (inR_bw ow 0 7)
  have C2 := hide (inR_bw th 0 ((ns.length : Int) - 1))
  have C3 := hide (inR_bw nw 0 999999)
  clear hbs HX
  by_cases h1 : 0 ≤ ow ∧ ow ≤ 7
  · have C1 := hide (C1.out true (decide_eq_true h1))
    by_cases h2 : 0 ≤ th ∧ th ≤ (ns.length : Int) - 1
    · have C2 := hide (C2.out true (decide_eq_true h2))
      obtain ⟨j, rfl⟩ : ∃ j : Nat, th = (j : Int) := ⟨th.toNat, by omega⟩
      have hj : j < ns.length := by omega
      obtain ⟨b, off, rfl, hbb, hcell⟩ := hd.resolve_left (by rintro rfl; simp at hj)
      have hj0 : (0 : Int) ≤ (j : Int) := by omega
      have hj1 : (j : Int) < (ns.length : Int) := by omega
      have e0 := (Below.cell HB.out (p := ⟨b, off + j, none⟩) hbb).trans (hcell j hj)
      have g4 := fun z : BW (w.alloc (.cells #[.int .i64 ow, .int .i64 (j : Int), .int .i64 od, .int .i64 nw] 72)) => bw_cell (p := ⟨b, off + j, none⟩) (Nat.lt_of_lt_of_le hbb HB.out.size) e0 z
      have HG : Hid (ns.getD (j : Int).toNat 0 = ns[j]) := by
        unfold Hid
        rw [Int.toNat_natCast, List.getD_eq_getElem?_getD, List.getElem?_eq_getElem hj]; rfl
      clear hcell hd e0 h2
      generalize ns[j] = x at *
      cases h3 : (x == od) with
      | false =>
        have HF : Hid (R = false) := by unfold Hid; rw [HR.out]; unfold editB; rw [HG.out, h3]; simp
        clear C3
        go_enter Try.func39, Try.ntmps39
        go_wp2_with fail
        refine wp_region_bw (by kernel_rfl) (by kernel_rfl) ?_
        repeat (go_big_quiet_step (first | (go_at_call 27; with_reducible exact bw_of (C1.out _ _)) | (go_at_call 27; with_reducible exact bw_of (C2.out _ _)) | fail))
        refine wpQuiet_nil ?_
        rintro _ ⟨z, rfl⟩
        have H1 : Hid (Below w.heap.size w z.v) := HB.out.trans (z.h.mono HB.out.size)
        clear g0 g1 g2 g3 g4
        go_wp2_with fail
        go_ret
        exact ⟨ret_bool HF.out.symm, H1.out⟩
      | true =>
        obtain ⟨q, hq⟩ : ∃ q, decide (0 ≤ nw ∧ nw ≤ 999999) = q := ⟨_, rfl⟩
        have C3 := hide (C3.out q hq)
        have HF : Hid (R = q) := by
          unfold Hid; rw [HR.out]; unfold editB
          rw [HG.out, h3, decide_eq_true h1, decide_eq_true (show 0 ≤ (j : Int) ∧ (j : Int) ≤ (ns.length : Int) - 1 by omega), hq]; rfl
        clear hq
        go_enter Try.func39, Try.ntmps39
        go_wp2_with fail
        refine wp_region_bw (by kernel_rfl) (by kernel_rfl) ?_
        repeat (go_big_quiet_step (first | (go_at_call 27; with_reducible exact bw_of (C1.out _ _)) | (go_at_call 27; with_reducible exact bw_of (C2.out _ _)) | (go_at_call 27; with_reducible exact bw_of (C3.out _ _)) | fail))
        refine wpQuiet_nil ?_
        rintro _ ⟨z, rfl⟩
        have H1 : Hid (Below w.heap.size w z.v) := HB.out.trans (z.h.mono HB.out.size)
        clear g0 g1 g2 g3 g4
        go_wp2_with fail
        go_ret
        exact ⟨ret_bool HF.out.symm, H1.out⟩
    · have C2 := hide (C2.out false (decide_eq_false h2))
      have HF : Hid (R = false) := by unfold Hid; rw [HR.out]; unfold editB; rw [decide_eq_false h2]; simp
      clear hd C3 h2
      go_enter Try.func39, Try.ntmps39
      go_wp2_with fail
      refine wp_region_bw (by kernel_rfl) (by kernel_rfl) ?_
      repeat (go_big_quiet_step (first | (go_at_call 27; with_reducible exact bw_of (C1.out _ _)) | (go_at_call 27; with_reducible exact bw_of (C2.out _ _)) | fail))
      refine wpQuiet_nil ?_
      rintro _ ⟨z, rfl⟩
      have H1 : Hid (Below w.heap.size w z.v) := HB.out.trans (z.h.mono HB.out.size)
      clear g0 g1 g2 g3
      go_wp2_with fail
      go_ret
      exact ⟨ret_bool HF.out.symm, H1.out⟩
  · have C1 := hide (C1.out false (decide_eq_false h1))
    have HF : Hid (R = false) := by unfold Hid; rw [HR.out]; unfold editB; rw [decide_eq_false h1]; simp
    clear hd C2 C3 h1
    go_enter Try.func39, Try.ntmps39
    go_wp2_with fail
    refine wp_region_bw (by kernel_rfl) (by kernel_rfl) ?_
    repeat (go_big_quiet_step (first | (go_at_call 27; with_reducible exact bw_of (C1.out _ _)) | fail))
    refine wpQuiet_nil ?_
    rintro _ ⟨z, rfl⟩
    have H1 : Hid (Below w.heap.size w z.v) := HB.out.trans (z.h.mono HB.out.size)
    clear g0 g1 g2 g3
    go_wp2_with fail
    go_ret
    exact ⟨ret_bool HF.out.symm, H1.out⟩
end Go.Proofs.Ytnicjpfkiblimaa
