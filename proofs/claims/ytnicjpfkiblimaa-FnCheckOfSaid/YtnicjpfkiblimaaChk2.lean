/-
  validCells and usable of the specification.
-/
import Derived.Test.YtnicjpfkiblimaaChk1
set_option linter.all false
namespace Go.Proofs.Ytnicjpfkiblimaa
open Go.RowKit
set_option maxHeartbeats 8000000 in
theorem validCells_any (v : Value) (c : List RCell) (w : World) (h : Cells w v c) :
    Calls Try.prog 28 #[v] w (BRet w ((∀ i (h : i < c.length), cellP c[i]) ∧ (1 ≤ c.length ∧ c.length ≤ 6))) := by
  obtain ⟨a, cap, rfl, hl, hcap, hd⟩ := h
  go_enter Try.func28, Try.ntmps28
  go_wp2_with fail
  go_loopg [3] c.length (fun gk sk wr => wr = w ∧ ∃ k : Nat, k + gk = c.length ∧ sk = .int .i64 (k : Int) ∧ ∀ i (h : i < c.length), i < k → cellP c[i])
  case atStart => exact ⟨rfl, 0, by omega, rfl, fun i _ hi => by omega⟩
  case round =>
    obtain ⟨rfl, k, hk, rfl, hP⟩ := hrel
    have HP := hide hP
    clear hP
    by_cases hlt : k < c.length
    · obtain ⟨b, off, rfl, hbb, hcell⟩ := hd.resolve_left (by rintro rfl; simp at hlt)
      obtain ⟨e0, e1⟩ := hcell k hlt
      have NO := hide (fun (hn : ¬ cellP c[k]) => fun (hu : (∀ i (h : i < c.length), cellP c[i]) ∧ (1 ≤ c.length ∧ c.length ≤ 6)) => hn (hu.1 k hlt))
      have YES : Hid (cellP c[k] → ∀ i (h : i < c.length), i < k + 1 → cellP c[i]) := fun hc i h hi => by
        by_cases hik : i = k
        · subst hik; exact hc
        · exact HP.out i h (by omega)
      clear hcell hd HP
      generalize c[k] = x at *
      by_cases q0 : 0 ≤ x.num ∧ x.num ≤ 999999
      · have Q0 := hide q0
        clear q0
        go_wp2_with fail
        refine (inRange_any x.num 0 (999999) _).mono ?_
        rintro e0 w0 ⟨rfl, rfl⟩
        rw [decide_eq_true Q0.out]
        by_cases q1 : 0 ≤ x.lsn ∧ x.lsn ≤ 20
        · have Q1 := hide q1
          clear q1
          go_wp2_with fail
          refine (inRange_any x.lsn 0 (20) _).mono ?_
          rintro e1 w1 ⟨rfl, rfl⟩
          rw [decide_eq_true Q1.out]
          go_wp2_with fail
          go_roundg (gk - 1)
          case measure => omega
          case rel => exact ⟨rfl, k + 1, by omega, by go_num, YES.out ⟨Q0.out, Q1.out⟩⟩
        · have Q := hide q1
          clear q1
          go_wp2_with fail
          refine (inRange_any x.lsn 0 (20) _).mono ?_
          rintro e1 w1 ⟨rfl, rfl⟩
          rw [decide_eq_false Q.out]
          go_wp2_with fail
          go_ret
          exact bret_no (NO.out (fun hc => by have := Q.out; unfold cellP at hc; omega)) (Below.refl _ _)
      · have Q := hide q0
        clear q0
        go_wp2_with fail
        refine (inRange_any x.num 0 (999999) _).mono ?_
        rintro e0 w0 ⟨rfl, rfl⟩
        rw [decide_eq_false Q.out]
        go_wp2_with fail
        go_ret
        exact bret_no (NO.out (fun hc => by have := Q.out; unfold cellP at hc; omega)) (Below.refl _ _)
    · have HC : Hid (∀ i (h : i < c.length), cellP c[i]) := fun i h => HP.out i h (by omega)
      clear hd HP
      go_wp2_with fail
      refine (inRange_any (c.length : Int) 1 6 _).mono ?_
      rintro e9 w9 ⟨rfl, rfl⟩
      obtain ⟨bv, hbv⟩ : ∃ bv, decide (1 ≤ (c.length : Int) ∧ (c.length : Int) ≤ 6) = bv := ⟨_, rfl⟩
      rw [hbv]
      have HBV := hide hbv
      clear hbv
      go_wp2_with fail
      go_ret
      exact ⟨bv, rfl, ⟨fun h => ⟨HC.out, by have q := of_decide_eq_true (HBV.out.trans h); omega⟩, fun h => by rw [← HBV.out]; exact decide_eq_true (by have := h.2; omega)⟩, Below.refl _ _⟩
set_option maxHeartbeats 8000000 in
theorem usable_any (v u : Value) (c : List RCell) (l : List RNote) (w : World) (h : Cells w v c) (h' : Notes w u l) :
    Calls Try.prog 14 #[v, u] w (BRet w (usP c l)) := by
  have VC := hide (validCells_any v c w h)
  obtain ⟨a', cap', rfl, hl', hcap', -⟩ := h
  obtain ⟨a, cap, rfl, hl, hcap, hd⟩ := h'
  go_enter Try.func14, Try.ntmps14
  go_wp2_with fail
  go_loopg [5] l.length (fun gk sk wr => wr = w ∧ ∃ k : Nat, k + gk = l.length ∧ sk = .int .i64 (k : Int) ∧ ∀ i (h : i < l.length), i < k → noteP c.length l[i])
  case atStart => exact ⟨rfl, 0, by omega, rfl, fun i _ hi => by omega⟩
  case round =>
    obtain ⟨rfl, k, hk, rfl, hP⟩ := hrel
    have HP := hide hP
    clear hP
    by_cases hlt : k < l.length
    · obtain ⟨b, off, rfl, hbb, hcell⟩ := hd.resolve_left (by rintro rfl; simp at hlt)
      obtain ⟨e0, e1, e2, e3, e4⟩ := hcell k hlt
      have NO := hide (fun (hn : ¬ noteP c.length l[k]) => fun (hu : usP c l) => hn (hu.2.2 k hlt))
      have YES : Hid (noteP c.length l[k] → ∀ i (h : i < l.length), i < k + 1 → noteP c.length l[i]) := fun hc i h hi => by
        by_cases hik : i = k
        · subst hik; exact hc
        · exact HP.out i h (by omega)
      clear hcell hd HP
      generalize l[k] = x at *
      by_cases q0 : 0 ≤ x.owner ∧ x.owner ≤ 7
      · have Q0 := hide q0
        clear q0
        go_wp2_with fail
        refine (inRange_any x.owner 0 (7) _).mono ?_
        rintro e0 w0 ⟨rfl, rfl⟩
        rw [decide_eq_true Q0.out]
        by_cases q1 : 0 ≤ x.thing ∧ x.thing ≤ (c.length : Int) - 1
        · have Q1 := hide q1
          clear q1
          go_wp2_with fail
          refine (inRange_any x.thing 0 ((c.length : Int) - 1) _).mono ?_
          rintro e1 w1 ⟨rfl, rfl⟩
          rw [decide_eq_true Q1.out]
          by_cases q2 : 0 ≤ x.new ∧ x.new ≤ 999999
          · have Q2 := hide q2
            clear q2
            go_wp2_with fail
            refine (inRange_any x.new 0 (999999) _).mono ?_
            rintro e2 w2 ⟨rfl, rfl⟩
            rw [decide_eq_true Q2.out]
            by_cases q3 : 0 ≤ x.old ∧ x.old ≤ 999999
            · have Q3 := hide q3
              clear q3
              go_wp2_with fail
              refine (inRange_any x.old 0 (999999) _).mono ?_
              rintro e3 w3 ⟨rfl, rfl⟩
              rw [decide_eq_true Q3.out]
              go_wp2_with fail
              go_roundg (gk - 1)
              case measure => omega
              case rel => exact ⟨rfl, k + 1, by omega, by go_num, YES.out ⟨Q0.out, by have := Q1.out; omega, Q3.out, Q2.out⟩⟩
            · have Q := hide q3
              clear q3
              go_wp2_with fail
              refine (inRange_any x.old 0 (999999) _).mono ?_
              rintro e3 w3 ⟨rfl, rfl⟩
              rw [decide_eq_false Q.out]
              go_wp2_with fail
              go_ret
              exact bret_no (NO.out (fun hc => by have := Q.out; unfold noteP at hc; omega)) (Below.refl _ _)
          · have Q := hide q2
            clear q2
            go_wp2_with fail
            refine (inRange_any x.new 0 (999999) _).mono ?_
            rintro e2 w2 ⟨rfl, rfl⟩
            rw [decide_eq_false Q.out]
            go_wp2_with fail
            go_ret
            exact bret_no (NO.out (fun hc => by have := Q.out; unfold noteP at hc; omega)) (Below.refl _ _)
        · have Q := hide q1
          clear q1
          go_wp2_with fail
          refine (inRange_any x.thing 0 ((c.length : Int) - 1) _).mono ?_
          rintro e1 w1 ⟨rfl, rfl⟩
          rw [decide_eq_false Q.out]
          go_wp2_with fail
          go_ret
          exact bret_no (NO.out (fun hc => by have := Q.out; unfold noteP at hc; omega)) (Below.refl _ _)
      · have Q := hide q0
        clear q0
        go_wp2_with fail
        refine (inRange_any x.owner 0 (7) _).mono ?_
        rintro e0 w0 ⟨rfl, rfl⟩
        rw [decide_eq_false Q.out]
        go_wp2_with fail
        go_ret
        exact bret_no (NO.out (fun hc => by have := Q.out; unfold noteP at hc; omega)) (Below.refl _ _)
    · have HN : Hid (∀ i (h : i < l.length), noteP c.length l[i]) := fun i h => HP.out i h (by omega)
      clear hd HP
      go_wp2_with fail
      refine VC.out.mono ?_
      rintro e9 w9 ⟨bb, rfl, hb, hB⟩
      have HBB := hide hb
      have HB := hide hB
      clear hb hB
      cases bb with
      | false =>
        go_wp2_with fail
        go_ret
        exact bret_no (fun hu => absurd (HBB.out.2 ⟨hu.2.1, hu.1.1⟩) (by simp)) HB.out
      | true =>
        have HV := hide (HBB.out.1 rfl)
        clear HBB
        go_wp2_with fail
        go_ret
        exact ⟨_, rfl, ⟨fun h => ⟨⟨HV.out.2, by have := of_decide_eq_true h; omega⟩, HV.out.1, HN.out⟩, fun h => decide_eq_true (by have := h.1.2; omega)⟩, HB.out⟩
end Go.Proofs.Ytnicjpfkiblimaa
