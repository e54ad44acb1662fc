/-
  The laws' measures, copies, comparisons and marks of leaves.
-/
import Derived.Test.YtmlphdniiiijpaaTreeX
import Derived.Test.YtmlphdniiiijpaaMarkI
import Derived.BigQuiet
import Derived.Deep.QuietTactic
set_option linter.all false
namespace Go.Proofs.Ytmlphdniiiijpaa
open Go.RowKit
/-- leaves of an argument -/
def LvsA (w : World) (v : Value) (t : List (List Itm)) : Prop := ∃ a cap, v = .slice a t.length cap ∧ t.length ≤ cap ∧ cap ≤ 9223372036854775807 ∧
  (t = [] ∨ ∃ b off, a = some ⟨b, off, none⟩ ∧ b < w.heap.size ∧ ∀ i (h : i < t.length), ∃ lv, w.cell? ⟨b, off + i, none⟩ = some lv ∧ Itms w lv t[i])
theorem LvsA.keep {w w' : World} {v : Value} {t : List (List Itm)} (h : LvsA w v t) (hb : Below w.heap.size w w') : LvsA w' v t := by
  obtain ⟨a, cap, rfl, hl, hc, hd⟩ := h
  refine ⟨a, cap, rfl, hl, hc, ?_⟩
  rcases hd with hd | ⟨b, off, rfl, hlt, hcell⟩
  · exact .inl hd
  · exact .inr ⟨b, off, rfl, Nat.lt_of_lt_of_le hlt hb.size, fun i hi => by
      obtain ⟨lv, h1, h2⟩ := hcell i hi
      exact ⟨lv, (hb.cell hlt).trans h1, h2.keep hb⟩⟩
theorem Lvs.arg {w : World} {v : Value} {t : List (List Itm)} (h : Lvs w v t) : LvsA w v t := by
  obtain ⟨a, cap, rfl, hl, hc, hd⟩ := h
  refine ⟨a, cap, rfl, hl, hc, ?_⟩
  rcases hd with hd | ⟨b, off, rfl, hlt, hcell⟩
  · exact .inl hd
  · exact .inr ⟨b, off, rfl, hlt, fun i hi => by
      obtain ⟨lv, h1, h2, -⟩ := hcell i hi
      exact ⟨lv, h1, h2⟩⟩
theorem flatT_take_s (t : List (List Itm)) {k : Nat} (h : k < t.length) : (flatT (t.take (k + 1))).length = (flatT (t.take k)).length + t[k].length := by rw [flatT_take h, List.length_append]
set_option maxHeartbeats 2000000 in
theorem szItemS_ex (v : Value) (l : List Itm) (left : Int) (w : World) (h : Itms w v l) (h0 : 0 ≤ left) (h1 : left ≤ 1048576) :
    Calls Try.prog 76 #[v, .int .i64 left] w (fun e w' => ∃ r : Int, e = .returned (.int .i64 r) ∧ (r = -1 ∨ (0 ≤ r ∧ r = left - (l.length : Int))) ∧ Below w.heap.size w w') := by
  obtain ⟨a, cap, rfl, hl, hcap, hd⟩ := h
  by_cases c1 : left - (l.length : Int) < 0
  · go_enter Try.func76, Try.ntmps76
    go_wp2_with fail
    go_ret
    exact ⟨-1, rfl, .inl rfl, Below.refl _ _⟩
  · go_enter Try.func76, Try.ntmps76
    go_wp2_with fail
    go_ret
    exact ⟨_, rfl, .inr ⟨by omega, rfl⟩, Below.refl _ _⟩
set_option maxHeartbeats 4000000 in
theorem szItemSS_any (v : Value) (t : List (List Itm)) (left : Int) (w : World) (h : LvsA w v t) (h0 : 0 ≤ left) (h1 : left ≤ 1048576) :
    Calls Try.prog 62 #[v, .int .i64 left] w (SzRet w left (t.length + (flatT t).length)) := by
  obtain ⟨a, cap, rfl, hl, hcap, hd⟩ := h
  by_cases c1 : left - (t.length : Int) < 0
  · go_enter Try.func62, Try.ntmps62
    go_wp2_with fail
    go_ret
    exact ⟨-1, rfl, by omega, by omega, .inl (by omega), Below.refl _ _⟩
  · go_enter Try.func62, Try.ntmps62
    go_wp2_with fail
    go_loopg [1, 5] t.length (fun gk s1 s5 wr => Below w.heap.size w wr ∧ ∃ (k : Nat) (r : Int), k + gk = t.length ∧ s1 = .int .i64 r ∧ s5 = .int .i64 (k : Int) ∧ 0 ≤ r ∧ r ≤ left - (t.length : Int) ∧ ((flatT (t.take k)).length : Int) ≤ left - (t.length : Int) - r)
    case atStart => exact ⟨Below.refl _ _, 0, _, by omega, rfl, rfl, by omega, by omega, by simp [flatT]⟩
    case round =>
      obtain ⟨hbw, k, r, hk, rfl, rfl, hr0, hr1, hr2⟩ := hrel
      have HW := hide hbw
      by_cases hlt : k < t.length
      · obtain ⟨b, off, rfl, hbb, hcell⟩ := hd.resolve_left (by rintro rfl; simp at hlt)
        obtain ⟨lv, e0, hlv⟩ := hcell k hlt
        have e0 := (hbw.cell hbb).trans e0
        have HS := hide (szItemS_ex lv t[k] r wr (hlv.keep hbw) hr0 (by omega))
        have HT := hide (flatT_take_s t hlt)
        obtain ⟨la, lc, rfl⟩ := itms_shape hlv
        clear hcell hd hbw hlv
        generalize t[k] = f at *
        go_wp2_with fail
        refine HS.out.mono ?_
        rintro e w2 ⟨r2, rfl, hq, hb⟩
        have H2 : Hid (Below w.heap.size w w2) := HW.out.trans (hb.mono HW.out.size)
        clear hb HS
        have HTL := HT.out
        rcases hq with rfl | ⟨hq1, hq2⟩
        · go_wp2_with fail
          go_ret
          exact ⟨-1, rfl, by omega, by omega, .inl (by omega), H2.out⟩
        · have hr3 : ¬ r2 < 0 := by omega
          have HQ := hide hq2
          have hr2b : r2 ≤ left - (t.length : Int) := by omega
          have hr2c : ((flatT (t.take (k + 1))).length : Int) ≤ left - (t.length : Int) - r2 := by omega
          have HC := hide hr2c
          clear hq2 hr2c HTL
          go_wp2_with fail
          go_roundg (gk - 1)
          case measure => omega
          case rel => exact ⟨H2.out, k + 1, r2, by omega, rfl, by go_num, by omega, hr2b, HC.out⟩
      · have hkl : k = t.length := by omega
        subst hkl
        rw [List.take_length] at hr2
        clear hd hbw
        go_wp2_with fail
        go_ret
        exact ⟨r, rfl, by omega, by omega, .inr (by omega), HW.out⟩
set_option maxHeartbeats 4000000 in
theorem eqItemSS_same (v v' : Value) (t : List (List Itm)) (w : World) (h : LvsA w v t) (h' : LvsA w v' t) :
    Calls Try.prog 64 #[v, v'] w fun e w' => e = .returned (.bool true) ∧ Below w.heap.size w w' := by
  obtain ⟨a, cap, rfl, hl, hcap, hd⟩ := h
  obtain ⟨a', cap', rfl, hl', hcap', hd'⟩ := h'
  go_enter Try.func64, Try.ntmps64
  go_wp2_with fail
  go_loopg [5] t.length (fun gk s5 wr => Below w.heap.size w wr ∧ ∃ k : Nat, k + gk = t.length ∧ s5 = .int .i64 (k : Int))
  case atStart => exact ⟨Below.refl _ _, 0, by omega, rfl⟩
  case round =>
    obtain ⟨hbw, k, hk, rfl⟩ := hrel
    have HW := hide hbw
    by_cases hlt : k < t.length
    · obtain ⟨b, off, rfl, hbb, hcell⟩ := hd.resolve_left (by rintro rfl; simp at hlt)
      obtain ⟨b', off', rfl, hbb', hcell'⟩ := hd'.resolve_left (by rintro rfl; simp at hlt)
      obtain ⟨lv, e0, hlv⟩ := hcell k hlt
      obtain ⟨lv', e0', hlv'⟩ := hcell' k hlt
      have e0 := (hbw.cell hbb).trans e0
      have e0' := (hbw.cell hbb').trans e0'
      have hbw1 : b < wr.heap.size := Nat.lt_of_lt_of_le hbb hbw.size
      have hbw2 : b' < wr.heap.size := Nat.lt_of_lt_of_le hbb' hbw.size
      have CE := hide (fun z (hz : Below wr.heap.size wr z) => eqItemS_same lv lv' t[k] z ((hlv.keep hbw).keep hz) ((hlv'.keep hbw).keep hz))
      obtain ⟨la, lc, rfl⟩ := itms_shape hlv
      obtain ⟨la', lc', rfl⟩ := itms_shape hlv'
      clear hcell hd hcell' hd' hbw hlv hlv'
      generalize t[k] = f at *
      have g0 := fun z : BW wr => bw_cell (p := ⟨b, off + k, none⟩) hbw1 e0 z
      have g1 := fun z : BW wr => bw_cell (p := ⟨b', off' + k, none⟩) hbw2 e0' z
      go_wp2_with fail
      refine wp_region_bw (by kernel_rfl) (by kernel_rfl) ?_
      repeat (go_big_quiet_step (first | (go_at_call 78; with_reducible exact bw_of (CE.out _ (by first | exact BW.h _)))))
      refine wpQuiet_nil ?_
      rintro _ ⟨z, rfl⟩
      have H1 : Hid (Below w.heap.size w z.v) := HW.out.trans (z.h.mono HW.out.size)
      clear g0 g1 CE
      go_wp2_with fail
      go_roundg (gk - 1)
      case measure => omega
      case rel => exact ⟨H1.out, k + 1, by omega, by go_num⟩
    · clear hd hd' hbw
      go_wp2_with fail
      go_ret
      exact ⟨rfl, HW.out⟩
end Go.Proofs.Ytmlphdniiiijpaa
