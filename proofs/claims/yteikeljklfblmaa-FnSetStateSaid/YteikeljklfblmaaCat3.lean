/-
  The measures and the copies of catalogs in the laws: szEntry, szEntryS, toEntry, toEntryS.
-/
import Derived.Test.YteikeljklfblmaaCat2
import Derived.Test.YteikeljklfblmaaMake
set_option linter.all false
namespace Go.Proofs.Yteikeljklfblmaa
open Go.RowKit
def SzRet (w : World) (left : Int) (n : Nat) (e : Ending) (w' : World) : Prop := ∃ r : Int, e = .returned (.int .i64 r) ∧ -1 ≤ r ∧ r ≤ left ∧ (r < 0 ∨ (n : Int) ≤ left) ∧ Below w.heap.size w w'
set_option maxHeartbeats 1000000 in
theorem szEntry_any (e : Ent) (left : Int) (w : World) (h0 : 0 ≤ left) (h1 : left ≤ 1048576) (hn : e.n.size ≤ 9223372036854775807) (ht : e.t.size ≤ 9223372036854775807) :
    Calls Try.prog 36 #[.agg #[.string e.n, .string e.t, .int .i64 e.s], .int .i64 left] w (SzRet w left 0) := by
  by_cases c1 : left - (e.n.size : Int) < 0
  · go_enter Try.func36, Try.ntmps36
    go_wp2_with fail
    go_ret
    exact ⟨-1, rfl, by omega, by omega, .inl (by omega), (Below.refl _ _).alloc (Nat.le_refl _) _⟩
  · by_cases c2 : left - (e.n.size : Int) - (e.t.size : Int) < 0
    · go_enter Try.func36, Try.ntmps36
      go_wp2_with fail
      go_ret
      exact ⟨-1, rfl, by omega, by omega, .inl (by omega), (Below.refl _ _).alloc (Nat.le_refl _) _⟩
    · go_enter Try.func36, Try.ntmps36
      go_wp2_with fail
      go_ret
      exact ⟨_, rfl, by omega, by omega, .inr (by omega), (Below.refl _ _).alloc (Nat.le_refl _) _⟩
set_option maxHeartbeats 2000000 in
theorem szEntryS_any (v : Value) (l : List Ent) (left : Int) (w : World) (h : Ents w v l) (h0 : 0 ≤ left) (h1 : left ≤ 1048576) :
    Calls Try.prog 17 #[v, .int .i64 left] w (SzRet w left l.length) := by
  obtain ⟨a, cap, rfl, hl, hcap, hd⟩ := h
  by_cases c1 : left - (l.length : Int) < 0
  · go_enter Try.func17, Try.ntmps17
    go_wp2_with fail
    go_ret
    exact ⟨-1, rfl, by omega, by omega, .inl (by omega), Below.refl _ _⟩
  · go_enter Try.func17, Try.ntmps17
    go_wp2_with fail
    go_loopg [1, 5] l.length (fun gk s1 s5 wr => Below w.heap.size w wr ∧ ∃ (k : Nat) (L : Int), k + gk = l.length ∧ s5 = .int .i64 (k : Int) ∧ s1 = .int .i64 L ∧ 0 ≤ L ∧ L ≤ left)
    case atStart => exact ⟨Below.refl _ _, 0, left - (l.length : Int), by omega, rfl, rfl, by omega, by omega⟩
    case round =>
      obtain ⟨hbw, k, L, hk, rfl, rfl, hL0, hL1⟩ := hrel
      have HW := hide hbw
      by_cases hlt : k < l.length
      · obtain ⟨b, off, rfl, hbb, hcell⟩ := hd.resolve_left (by rintro rfl; simp at hlt)
        obtain ⟨e0, e1, e2, hz, hz2⟩ := (hcell k hlt).keep hbw
        clear hcell hd hbw
        generalize l[k] = e at *
        go_wp2_with fail
        refine (szEntry_any e L _ hL0 (by omega) hz hz2).mono ?_
        rintro e' w1 ⟨r, rfl, hr0, hr1, -, hb1⟩
        have H1 : Hid (Below w.heap.size w w1) := HW.out.trans (hb1.mono HW.out.size)
        clear hb1
        by_cases hr : r < 0
        · go_wp2_with fail
          go_ret
          exact ⟨-1, rfl, by omega, by omega, .inl (by omega), H1.out⟩
        · go_wp2_with fail
          go_roundg (gk - 1)
          case measure => omega
          case rel => exact ⟨H1.out, k + 1, r, by omega, by go_num, rfl, by omega, by omega⟩
      · clear hd hbw
        go_wp2_with fail
        go_ret
        exact ⟨L, rfl, by omega, by omega, .inr (by omega), HW.out⟩
set_option maxHeartbeats 1000000 in
theorem toEntry_any (e : Ent) (w : World) :
    Calls Try.prog 37 #[.agg #[.string e.n, .string e.t, .int .i64 e.s]] w fun e' w' => e' = .returned (.agg #[.string e.n, .string e.t, .int .i64 e.s]) ∧ Below w.heap.size w w' := by
  go_enter Try.func37, Try.ntmps37
  go_wp2_with fail
  all_goals go_tidy
  refine ⟨rfl, .agg #[.string e.n, .string e.t, .int .i64 e.s], by simp [results, Try.results37, go_sem], rfl, ?_⟩
  repeat (first | (with_reducible exact Below.refl _ _) | (with_reducible refine Below.setCell ?_ (by simp) _) | (with_reducible refine Below.alloc ?_ (by simp <;> omega) _))
end Go.Proofs.Yteikeljklfblmaa
