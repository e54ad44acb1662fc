/-
  The closure of openOwners, IndexFunc, ContainsFunc; openOwners.
-/
import Derived.Test.YtnicjpfkiblimaaChk3
set_option linter.all false
namespace Go.Proofs.Ytnicjpfkiblimaa
open Go.RowKit
def edB (n : RNote) (t : Int) : Bool := !n.fin && (n.owner == t)
def hasB (l : List RNote) (t : Int) : Bool := l.any (fun n => edB n t)
theorem hasB_no {l : List RNote} {t : Int} (h : ∀ i (h : i < l.length), edB l[i] t = false) : hasB l t = false := by
  cases hq : hasB l t with
  | false => rfl
  | true =>
    unfold hasB at hq; rw [List.any_eq_true] at hq
    obtain ⟨n, hn, h1⟩ := hq
    obtain ⟨i, hi, rfl⟩ := List.getElem_of_mem hn
    rw [h i hi] at h1; cases h1
theorem hasB_yes {l : List RNote} {k : Nat} {t : Int} (h : k < l.length) (h1 : edB l[k] t = true) : hasB l t = true := by
  unfold hasB; rw [List.any_eq_true]; exact ⟨l[k], List.getElem_mem h, h1⟩
set_option maxHeartbeats 2000000 in
theorem closure_any (B : Nat) (t : Int) (n : RNote) (w : World) (hc : w.cell? ⟨B, 0, none⟩ = some (.int .i64 t)) :
    Calls Try.prog 25 #[.agg #[.bool n.fin, .int .i64 n.owner, .int .i64 n.thing, .int .i64 n.old, .int .i64 n.new], .pointer (some ⟨B, 0, none⟩)] w fun e w' => e = .returned (.bool (edB n t)) ∧ Below w.heap.size w w' := by
  have hB : B < w.heap.size := lt_cell hc
  obtain ⟨nf, no, nt, nd, nw⟩ := n
  cases nf with
  | false =>
    go_enter Try.func25, Try.ntmps25
    go_wp2_with fail
    all_goals go_ret
    all_goals exact ⟨ret_bool (by simp [edB]), (Below.refl _ _).alloc (Nat.le_refl _) _⟩
  | true =>
    go_enter Try.func25, Try.ntmps25
    go_wp2_with fail
    all_goals go_ret
    all_goals exact ⟨ret_bool (by simp [edB]), (Below.refl _ _).alloc (Nat.le_refl _) _⟩
set_option maxHeartbeats 4000000 in
theorem indexFunc_any (B : Nat) (t : Int) (v : Value) (l : List RNote) (w : World) (h : Notes w v l) (hc : w.cell? ⟨B, 0, none⟩ = some (.int .i64 t)) :
    Calls Try.prog 36 #[v, .func (.func 25) #[] #[.pointer (some ⟨B, 0, none⟩)]] w fun e w' => ∃ r : Int, e = .returned (.int .i64 r) ∧ decide (0 ≤ r) = hasB l t ∧ Below w.heap.size w w' := by
  obtain ⟨a, cap, rfl, hl, hcap, hd⟩ := h
  have hB : B < w.heap.size := lt_cell hc
  go_enter Try.func36, Try.ntmps36
  go_wp2_with fail
  go_loopg [8] l.length (fun gk s8 wr => Below w.heap.size w wr ∧ ∃ k : Nat, k + gk = l.length ∧ s8 = .int .i64 (k : Int) ∧ ∀ i (h : i < l.length), i < k → edB l[i] t = false)
  case atStart => exact ⟨Below.refl _ _, 0, by omega, rfl, fun i _ hi => by omega⟩
  case round =>
    obtain ⟨hbw, k, hk, rfl, hno⟩ := hrel
    have HW := hide hbw
    have HN := hide hno
    have HC := hide ((hbw.cell (p := ⟨B, 0, none⟩) hB).trans hc)
    clear hno hc
    by_cases hlt : k < l.length
    · obtain ⟨b, off, rfl, hbb, hcell⟩ := hd.resolve_left (by rintro rfl; simp at hlt)
      obtain ⟨e0, e1, e2, e3, e4⟩ := (hcell k hlt).keep hbw
      have YES : Hid (edB l[k] t = true → decide ((0 : Int) ≤ (k : Int)) = hasB l t) := fun h => by rw [hasB_yes hlt h]; simp
      have CONT : Hid (edB l[k] t = false → ∀ i (h : i < l.length), i < k + 1 → edB l[i] t = false) := fun hc i h hi => by
        by_cases hik : i = k
        · subst hik; exact hc
        · exact HN.out i h (by omega)
      clear hcell hd hbw HN
      generalize l[k] = x at *
      have CL := hide (closure_any B t x wr HC.out)
      cases hq : edB x t with
      | true =>
        rw [hq] at CL
        have HQ := hide hq
        clear hq
        go_wp2_with fail
        refine CL.out.mono ?_
        rintro e' w' ⟨rfl, hb'⟩
        have H' : Hid (Below w.heap.size w w') := HW.out.trans (hb'.mono HW.out.size)
        clear hb'
        go_wp2_with fail
        go_ret
        exact ⟨_, rfl, YES.out HQ.out, H'.out⟩
      | false =>
        rw [hq] at CL
        have HQ := hide hq
        clear hq
        go_wp2_with fail
        refine CL.out.mono ?_
        rintro e' w' ⟨rfl, hb'⟩
        have H' : Hid (Below w.heap.size w w') := HW.out.trans (hb'.mono HW.out.size)
        clear hb'
        go_wp2_with fail
        go_roundg (gk - 1)
        case measure => omega
        case rel => exact ⟨H'.out, k + 1, by omega, by go_num, CONT.out HQ.out⟩
    · have HF := hide (hasB_no (l := l) (t := t) fun i h => HN.out i h (by omega))
      clear hd hbw HN
      go_wp2_with fail
      go_ret
      exact ⟨-1, rfl, by rw [HF.out]; rfl, HW.out⟩
set_option maxHeartbeats 2000000 in
theorem containsFunc_any (B : Nat) (t : Int) (v : Value) (l : List RNote) (w : World) (h : Notes w v l) (hc : w.cell? ⟨B, 0, none⟩ = some (.int .i64 t)) :
    Calls Try.prog 26 #[v, .func (.func 25) #[] #[.pointer (some ⟨B, 0, none⟩)]] w fun e w' => e = .returned (.bool (hasB l t)) ∧ Below w.heap.size w w' := by
  have IF := hide (indexFunc_any B t v l w h hc)
  obtain ⟨a, cap, rfl, -⟩ := h
  clear hc
  go_enter Try.func26, Try.ntmps26
  go_wp2_with fail
  refine IF.out.mono ?_
  rintro e w1 ⟨r, rfl, hr, hb1⟩
  have HR := hide hr
  have H1 := hide hb1
  clear hr hb1
  go_wp2_with fail
  go_ret
  exact ⟨ret_bool HR.out, H1.out⟩
end Go.Proofs.Ytnicjpfkiblimaa
