/-
  leafFor and TreeInsert of the program.
-/
import Derived.Test.YtmlphdniiiijpaaTreeV
import Derived.Test.YtmlphdniiiijpaaTreeX
import Derived.Test.YtmlphdniiiijpaaBsi
import Derived.BigQuiet
import Derived.Deep.QuietTactic
import Derived.Deep.RegionHeld3
set_option linter.all false
namespace Go.Proofs.Ytmlphdniiiijpaa
open Go.RowKit
theorem cmpI_le (a b : Itm) : decide (cmpI a b ≤ 0) = !lessI b a := by
  obtain ⟨a1, a2⟩ := a
  obtain ⟨b1, b2⟩ := b
  unfold cmpI cmpZ lessI
  simp only
  split <;> split <;> (try split) <;> (try split) <;> (try split) <;> (first | (simp; done) | (simp; omega) | omega)
theorem headLE_at {t : List (List Itm)} {x : Itm} {k : Nat} (hk : k < t.length) (h1 : 0 < t[k].length) : headLE t x k = !lessI x t[k][0] := by
  have q : ∀ (f : List Itm) (h : 0 < f.length), (match some f with | some (y :: _) => !lessI x y | _ => false) = !lessI x f[0] := by
    intro f h
    cases f with
    | nil => simp at h
    | cons y ys => rfl
  unfold headLE
  rw [List.getElem?_eq_getElem hk]
  exact q _ h1
set_option maxHeartbeats 8000000 in
theorem leafFor_any (v : Value) (t : List (List Itm)) (x : Itm) (w : World) (h : Lvs w v t) (hne : ∀ f ∈ t, 1 ≤ f.length) :
    Calls Try.prog 53 #[.agg #[v], .agg #[.int .i64 x.k, .int .i64 x.r]] w fun e w' => e = .returned (.int .i64 ((leafAt t x t.length : Nat) : Int)) ∧ Below w.heap.size w w' := by
  obtain ⟨a, cap, rfl, hl, hcap, hd⟩ := h
  obtain ⟨R, hR⟩ : ∃ R, R = leafAt t x t.length := ⟨_, rfl⟩
  rw [← hR]
  have HR := hide hR
  clear hR
  have HB0 := hide (below_box2 w (.cells #[.slice a t.length cap] 25) (.cells #[.int .i64 x.k, .int .i64 x.r] 38))
  have HX0 := hide (blk_at (W := w.alloc (.cells #[.slice a t.length cap] 25)) (b := w.heap.size + 1) (by simp) (.cells #[.int .i64 x.k, .int .i64 x.r] 38))
  go_enter Try.func53, Try.ntmps53
  go_wp2_with fail
  go_loopg [5, 11] t.length (fun gk s5 s11 wr => Below w.heap.size w wr ∧ wr.heap[w.heap.size + 1]? = some (.cells #[.int .i64 x.k, .int .i64 x.r] 38 (0, 0)) ∧ ∃ k m : Nat, k + gk = t.length ∧ s5 = .int .i64 (m : Int) ∧ s11 = .int .i64 (k : Int) ∧ m ≤ k ∧ Hid (m = leafAt t x k))
  case atStart => exact ⟨HB0.out, HX0.out, 0, 0, by omega, rfl, rfl, by omega, hide rfl⟩
  case round =>
    clear HB0 HX0
    obtain ⟨hbw, hbx, k, m, hk, rfl, rfl, hmk, hm⟩ := hrel
    have HW := hide hbw
    have HX := hide hbx
    have hbs := lt_block hbx
    clear hbx
    by_cases hlt : k < t.length
    · obtain ⟨b, off, rfl, hbb, hcell⟩ := hd.resolve_left (by rintro rfl; simp at hlt)
      obtain ⟨lv, e0, hlv, -⟩ := hcell k hlt
      have e0 := (hbw.cell hbb).trans e0
      have h1 : 0 < t[k].length := hne _ (List.getElem_mem hlt)
      have HE := hide (headLE_at (x := x) hlt h1)
      have hlv := hlv.keep hbw
      obtain ⟨la, lc, rfl, h2, h3, hld⟩ := hlv
      obtain ⟨lb, lo, rfl, hlb, hlc⟩ := hld.resolve_left (by intro e; rw [e] at h1; simp at h1)
      have E := hide (hlc 0 h1)
      clear hcell hd hbw hld hlc
      rw [Nat.zero_mul, Nat.add_zero] at E
      generalize t[k][0] = y at *
      obtain ⟨n, hn⟩ : ∃ n, t[k].length = n := ⟨_, rfl⟩
      rw [hn] at e0 h1 h2
      clear hn
      have g0 := fun z : BW wr => bw_cell (p := ⟨lb, lo, none⟩) hlb E.out.1 z
      have g1 := fun z : BW wr => bw_cell (p := ⟨lb, lo + 1, none⟩) hlb E.out.2 z
      have g2 := fun z : BW wr => bw_cell (p := ⟨w.heap.size + 1, 0, none⟩) hbs (cell_block HX.out 0) z
      have g3 := fun z : BW wr => bw_cell (p := ⟨w.heap.size + 1, 1, none⟩) hbs (cell_block HX.out 1) z
      have CC := hide (fun z : World => compareItems_any y x z)
      have HCM := hide (cmpI_le y x)
      obtain ⟨c, hc⟩ : ∃ c, cmpI y x = c := ⟨_, rfl⟩
      have HLA : Hid (leafAt t x (k + 1) = if headLE t x k then k else leafAt t x k) := rfl
      rw [hc] at CC HCM
      clear hc
      cases hq : lessI x y with
      | false =>
        have hd0 : c ≤ 0 := by have := HCM.out; rw [hq] at this; simpa using this
        have HN : Hid (k = leafAt t x (k + 1)) := by unfold Hid; rw [HLA.out, HE.out, hq]; simp
        clear hq HLA HE HCM
        go_wp2_with fail
        refine wp_region_bw (by kernel_rfl) (by kernel_rfl) ?_
        repeat (go_big_quiet_step (first | (go_at_call 55; with_reducible exact bw_of (CC.out _))))
        refine wpQuiet_nil ?_
        rintro _ ⟨z, rfl⟩
        have H1 : Hid (Below w.heap.size w z.v) := HW.out.trans (z.h.mono HW.out.size)
        have HX1 := hide (bw_blk HX.out z)
        clear g0 g1 g2 g3 CC
        go_wp2_with fail
        go_roundg (gk - 1)
        case measure => omega
        case rel => exact ⟨H1.out, HX1.out, k + 1, k, by omega, rfl, by go_num, by omega, HN.out⟩
      | true =>
        have hd0 : ¬ c ≤ 0 := by have := HCM.out; rw [hq] at this; simpa using this
        have HN : Hid (m = leafAt t x (k + 1)) := by unfold Hid; rw [HLA.out, HE.out, hq]; simpa using hm.out
        clear hq HLA HE HCM
        go_wp2_with fail
        refine wp_region_bw (by kernel_rfl) (by kernel_rfl) ?_
        repeat (go_big_quiet_step (first | (go_at_call 55; with_reducible exact bw_of (CC.out _))))
        refine wpQuiet_nil ?_
        rintro _ ⟨z, rfl⟩
        have H1 : Hid (Below w.heap.size w z.v) := HW.out.trans (z.h.mono HW.out.size)
        have HX1 := hide (bw_blk HX.out z)
        clear g0 g1 g2 g3 CC
        go_wp2_with fail
        go_roundg (gk - 1)
        case measure => omega
        case rel => exact ⟨H1.out, HX1.out, k + 1, m, by omega, rfl, by go_num, by omega, HN.out⟩
    · have hkl : k = t.length := by omega
      subst hkl
      clear hd hbw
      go_wp2_with fail
      go_ret
      exact ⟨by rw [HR.out, ← hm.out]; rfl, HW.out⟩
end Go.Proofs.Ytmlphdniiiijpaa
