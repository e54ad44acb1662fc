/-
  canRedo of the program, usable of the specification; ended, isIn, copyInts.
-/
import Derived.Test.YtnicjpfkiblimaaKCell
import Derived.Test.YtnicjpfkiblimaaKNote
import Derived.Test.YtnicjpfkiblimaaKInts
import Derived.Test.YtnicjpfkiblimaaReader
set_option linter.all false
namespace Go.Proofs.Ytnicjpfkiblimaa
open Go.RowKit
def cellP (x : RCell) : Prop := (0 ≤ x.num ∧ x.num ≤ 999999) ∧ (0 ≤ x.lsn ∧ x.lsn ≤ 20)
def noteP (C : Nat) (n : RNote) : Prop := (0 ≤ n.owner ∧ n.owner ≤ 7) ∧ (0 ≤ n.thing ∧ n.thing < (C : Int)) ∧ (0 ≤ n.old ∧ n.old ≤ 999999) ∧ (0 ≤ n.new ∧ n.new ≤ 999999)
def usP (c : List RCell) (l : List RNote) : Prop := ((1 ≤ c.length ∧ c.length ≤ 6) ∧ l.length ≤ 20) ∧ (∀ i (h : i < c.length), cellP c[i]) ∧ (∀ i (h : i < l.length), noteP c.length l[i])
def BRet (w : World) (p : Prop) (e : Ending) (w' : World) : Prop := ∃ b, e = .returned (.bool b) ∧ (b = true ↔ p) ∧ Below w.heap.size w w'
theorem bret_no {w w' : World} {p : Prop} (h : ¬ p) (hb : Below w.heap.size w w') : BRet w p (.returned (.bool false)) w' := ⟨false, rfl, ⟨fun h' => absurd h' (by simp), fun h' => absurd h' h⟩, hb⟩
theorem bret_yes {w w' : World} {p : Prop} (h : p) (hb : Below w.heap.size w w') : BRet w p (.returned (.bool true)) w' := ⟨true, rfl, ⟨fun _ => h, fun _ => rfl⟩, hb⟩

set_option maxHeartbeats 8000000 in
theorem canRedo_any (v u : Value) (c : List RCell) (l : List RNote) (w : World) (h : Cells w v c) (h' : Notes w u l) :
    Calls Try.prog 11 #[v, u] w (BRet w (usP c l)) := by
  obtain ⟨a, cap, rfl, hl, hcap, hd⟩ := h
  obtain ⟨a', cap', rfl, hl', hcap', hd'⟩ := h'
  by_cases h1 : (c.length : Int) < 1
  · have d1 : decide ((c.length : Int) < 1) = true := decide_eq_true h1
    have Q := hide h1
    go_enter Try.func11, Try.ntmps11
    go_wp2_with fail
    go_ret
    exact bret_no (fun hu => by have := hu.1; have := Q.out; omega) (Below.refl _ _)
  have d1 : decide ((c.length : Int) < 1) = false := decide_eq_false h1
  have Q1 := hide (Int.not_lt.1 h1)
  by_cases h2 : (6 : Int) < (c.length : Int)
  · have d2 : decide ((6 : Int) < (c.length : Int)) = true := decide_eq_true h2
    have Q := hide h2
    go_enter Try.func11, Try.ntmps11
    go_wp2_with fail
    go_ret
    exact bret_no (fun hu => by have := hu.1; have := Q.out; omega) (Below.refl _ _)
  have d2 : decide ((6 : Int) < (c.length : Int)) = false := decide_eq_false h2
  have Q2 := hide (Int.not_lt.1 h2)
  by_cases h3 : (20 : Int) < (l.length : Int)
  · have d3 : decide ((20 : Int) < (l.length : Int)) = true := decide_eq_true h3
    have Q := hide h3
    go_enter Try.func11, Try.ntmps11
    go_wp2_with fail
    go_ret
    exact bret_no (fun hu => by have := hu.1; have := Q.out; omega) (Below.refl _ _)
  have d3 : decide ((20 : Int) < (l.length : Int)) = false := decide_eq_false h3
  have Q3 := hide (Int.not_lt.1 h3)
  go_enter Try.func11, Try.ntmps11
  go_wp2_with fail
  go_loopg [24] c.length (fun gk sk wr => Below w.heap.size w wr ∧ ∃ k : Nat, k + gk = c.length ∧ sk = .int .i64 (k : Int) ∧ ∀ i (h : i < c.length), i < k → cellP c[i])
  case atStart => exact ⟨Below.refl _ _, 0, by omega, rfl, fun i _ hi => by omega⟩
  case round =>
    obtain ⟨hbw, k, hk, rfl, hP⟩ := hrel
    have HW := hide hbw
    have HP := hide hP
    clear hP
    by_cases hlt : k < c.length
    · obtain ⟨b, off, rfl, hbb, hcell⟩ := hd.resolve_left (by rintro rfl; simp at hlt)
      obtain ⟨e0, e1⟩ := (hcell k hlt).keep hbw
      have NO := hide (fun (hn : ¬ cellP c[k]) => fun (hu : usP c l) => hn (hu.2.1 k hlt))
      have YES : Hid (cellP c[k] → ∀ i (h : i < c.length), i < k + 1 → cellP c[i]) := fun hc i h hi => by
        by_cases hik : i = k
        · subst hik; exact hc
        · exact HP.out i h (by omega)
      clear hcell hd hbw HP
      generalize c[k] = x at *
      by_cases q0 : x.num < 0
      · have d0 : decide (x.num < 0) = true := decide_eq_true q0
        have Q := hide q0
        go_wp2_with fail
        go_ret
        exact bret_no (NO.out (fun hc => by have := Q.out; unfold cellP at hc; omega)) (HW.out.alloc HW.out.size _)
      have d0 : decide (x.num < 0) = false := decide_eq_false q0
      have Q0 := hide (Int.not_lt.1 q0)
      by_cases q1 : 999999 < x.num
      · have d1 : decide (999999 < x.num) = true := decide_eq_true q1
        have Q := hide q1
        go_wp2_with fail
        go_ret
        exact bret_no (NO.out (fun hc => by have := Q.out; unfold cellP at hc; omega)) (HW.out.alloc HW.out.size _)
      have d1 : decide (999999 < x.num) = false := decide_eq_false q1
      have Q1 := hide (Int.not_lt.1 q1)
      by_cases q2 : x.lsn < 0
      · have d2 : decide (x.lsn < 0) = true := decide_eq_true q2
        have Q := hide q2
        go_wp2_with fail
        go_ret
        exact bret_no (NO.out (fun hc => by have := Q.out; unfold cellP at hc; omega)) (HW.out.alloc HW.out.size _)
      have d2 : decide (x.lsn < 0) = false := decide_eq_false q2
      have Q2 := hide (Int.not_lt.1 q2)
      by_cases q3 : 20 < x.lsn
      · have d3 : decide (20 < x.lsn) = true := decide_eq_true q3
        have Q := hide q3
        go_wp2_with fail
        go_ret
        exact bret_no (NO.out (fun hc => by have := Q.out; unfold cellP at hc; omega)) (HW.out.alloc HW.out.size _)
      have d3 : decide (20 < x.lsn) = false := decide_eq_false q3
      have Q3 := hide (Int.not_lt.1 q3)
      go_wp2_with fail
      go_roundg (gk - 1)
      case measure => omega
      case rel => exact ⟨HW.out.alloc HW.out.size _, k + 1, by omega, by go_num, YES.out ⟨⟨Q0.out, Q1.out⟩, ⟨Q2.out, Q3.out⟩⟩⟩
    · have hkl : k = c.length := by omega
      have HC : Hid (∀ i (h : i < c.length), cellP c[i]) := fun i h => HP.out i h (by omega)
      clear hd HP
      go_wp2_with fail
      go_loopg [49] l.length (fun gk sk wq => Below w.heap.size w wq ∧ ∃ k : Nat, k + gk = l.length ∧ sk = .int .i64 (k : Int) ∧ ∀ i (h : i < l.length), i < k → noteP c.length l[i])
      case atStart => exact ⟨HW.out, 0, by omega, rfl, fun i _ hi => by omega⟩
      case round =>
        clear hbw HW hk hkl
        obtain ⟨hbw, k, hk, rfl, hP⟩ := hrel
        have HW := hide hbw
        have HP := hide hP
        clear hP
        by_cases hlt : k < l.length
        · obtain ⟨b, off, rfl, hbb, hcell⟩ := hd'.resolve_left (by rintro rfl; simp at hlt)
          obtain ⟨e0, e1, e2, e3, e4⟩ := (hcell k hlt).keep hbw
          have NO := hide (fun (hn : ¬ noteP c.length l[k]) => fun (hu : usP c l) => hn (hu.2.2 k hlt))
          have YES : Hid (noteP c.length l[k] → ∀ i (h : i < l.length), i < k + 1 → noteP c.length l[i]) := fun hc i h hi => by
            by_cases hik : i = k
            · subst hik; exact hc
            · exact HP.out i h (by omega)
          clear hcell hd' hbw HP
          generalize l[k] = x at *
          by_cases q0 : x.owner < 0
          · have d0 : decide (x.owner < 0) = true := decide_eq_true q0
            have Q := hide q0
            go_wp2_with fail
            go_ret
            exact bret_no (NO.out (fun hc => by have := Q.out; unfold noteP at hc; omega)) (HW.out.alloc HW.out.size _)
          have d0 : decide (x.owner < 0) = false := decide_eq_false q0
          have Q0 := hide (Int.not_lt.1 q0)
          by_cases q1 : 7 < x.owner
          · have d1 : decide (7 < x.owner) = true := decide_eq_true q1
            have Q := hide q1
            go_wp2_with fail
            go_ret
            exact bret_no (NO.out (fun hc => by have := Q.out; unfold noteP at hc; omega)) (HW.out.alloc HW.out.size _)
          have d1 : decide (7 < x.owner) = false := decide_eq_false q1
          have Q1 := hide (Int.not_lt.1 q1)
          by_cases q2 : x.thing < 0
          · have d2 : decide (x.thing < 0) = true := decide_eq_true q2
            have Q := hide q2
            go_wp2_with fail
            go_ret
            exact bret_no (NO.out (fun hc => by have := Q.out; unfold noteP at hc; omega)) (HW.out.alloc HW.out.size _)
          have d2 : decide (x.thing < 0) = false := decide_eq_false q2
          have Q2 := hide (Int.not_lt.1 q2)
          by_cases q3 : (c.length : Int) ≤ x.thing
          · have d3 : decide ((c.length : Int) ≤ x.thing) = true := decide_eq_true q3
            have Q := hide q3
            go_wp2_with fail
            go_ret
            exact bret_no (NO.out (fun hc => by have := Q.out; unfold noteP at hc; omega)) (HW.out.alloc HW.out.size _)
          have d3 : decide ((c.length : Int) ≤ x.thing) = false := decide_eq_false q3
          have Q3 := hide (Int.not_le.1 q3)
          by_cases q4 : x.old < 0
          · have d4 : decide (x.old < 0) = true := decide_eq_true q4
            have Q := hide q4
            go_wp2_with fail
            go_ret
            exact bret_no (NO.out (fun hc => by have := Q.out; unfold noteP at hc; omega)) (HW.out.alloc HW.out.size _)
          have d4 : decide (x.old < 0) = false := decide_eq_false q4
          have Q4 := hide (Int.not_lt.1 q4)
          by_cases q5 : 999999 < x.old
          · have d5 : decide (999999 < x.old) = true := decide_eq_true q5
            have Q := hide q5
            go_wp2_with fail
            go_ret
            exact bret_no (NO.out (fun hc => by have := Q.out; unfold noteP at hc; omega)) (HW.out.alloc HW.out.size _)
          have d5 : decide (999999 < x.old) = false := decide_eq_false q5
          have Q5 := hide (Int.not_lt.1 q5)
          by_cases q6 : x.new < 0
          · have d6 : decide (x.new < 0) = true := decide_eq_true q6
            have Q := hide q6
            go_wp2_with fail
            go_ret
            exact bret_no (NO.out (fun hc => by have := Q.out; unfold noteP at hc; omega)) (HW.out.alloc HW.out.size _)
          have d6 : decide (x.new < 0) = false := decide_eq_false q6
          have Q6 := hide (Int.not_lt.1 q6)
          by_cases q7 : 999999 < x.new
          · have d7 : decide (999999 < x.new) = true := decide_eq_true q7
            have Q := hide q7
            go_wp2_with fail
            go_ret
            exact bret_no (NO.out (fun hc => by have := Q.out; unfold noteP at hc; omega)) (HW.out.alloc HW.out.size _)
          have d7 : decide (999999 < x.new) = false := decide_eq_false q7
          have Q7 := hide (Int.not_lt.1 q7)
          go_wp2_with fail
          go_roundg (gk - 1)
          case measure => omega
          case rel => exact ⟨HW.out.alloc HW.out.size _, k + 1, by omega, by go_num, YES.out ⟨⟨Q0.out, Q1.out⟩, ⟨Q2.out, Q3.out⟩, ⟨Q4.out, Q5.out⟩, ⟨Q6.out, Q7.out⟩⟩⟩
        · have HN : Hid (∀ i (h : i < l.length), noteP c.length l[i]) := fun i h => HP.out i h (by omega)
          have HU : Hid (usP c l) := ⟨by have := Q1.out; have := Q2.out; have := Q3.out; omega, HC.out, HN.out⟩
          clear hd' hbw HP
          go_wp2_with fail
          go_ret
          exact bret_yes HU.out HW.out

def endB (l : List RNote) (t : Int) : Bool := l.any (fun n => n.fin && (n.owner == t))
theorem endB_yes {l : List RNote} {k : Nat} {t : Int} (h : k < l.length) (h1 : l[k].fin = true) (h2 : l[k].owner = t) : endB l t = true := by
  unfold endB; rw [List.any_eq_true]; exact ⟨l[k], List.getElem_mem h, by simp [h1, h2]⟩
theorem endB_no {l : List RNote} {t : Int} (h : ∀ i (h : i < l.length), ¬ (l[i].fin = true ∧ l[i].owner = t)) : endB l t = false := by
  cases hq : endB l t with
  | false => rfl
  | true =>
    unfold endB at hq; rw [List.any_eq_true] at hq
    obtain ⟨n, hn, h1⟩ := hq
    obtain ⟨i, hi, rfl⟩ := List.getElem_of_mem hn
    exact absurd (by simpa using h1) (h i hi)
set_option maxHeartbeats 4000000 in
theorem ended_any (v : Value) (l : List RNote) (t : Int) (w : World) (h : Notes w v l) :
    Calls Try.prog 15 #[v, .int .i64 t] w fun e w' => e = .returned (.bool (endB l t)) ∧ w = w' := by
  obtain ⟨a, cap, rfl, hl, hcap, hd⟩ := h
  obtain ⟨R, hR⟩ : ∃ R, R = endB l t := ⟨_, rfl⟩
  rw [← hR]
  have HR := hide hR
  clear hR
  go_enter Try.func15, Try.ntmps15
  go_wp2_with fail
  go_loopg [5] l.length (fun gk sk wr => wr = w ∧ ∃ k : Nat, k + gk = l.length ∧ sk = .int .i64 (k : Int) ∧ ∀ i (h : i < l.length), i < k → ¬ (l[i].fin = true ∧ l[i].owner = t))
  case atStart => exact ⟨rfl, 0, by omega, rfl, fun i _ hi => by omega⟩
  case round =>
    obtain ⟨rfl, k, hk, rfl, hP⟩ := hrel
    have HP := hide hP
    clear hP
    by_cases hlt : k < l.length
    · obtain ⟨b, off, rfl, hbb, hcell⟩ := hd.resolve_left (by rintro rfl; simp at hlt)
      obtain ⟨e0, e1, e2, e3, e4⟩ := hcell k hlt
      have YES := hide (fun h1 h2 => endB_yes (t := t) hlt h1 h2)
      have CONT : Hid (¬ (l[k].fin = true ∧ l[k].owner = t) → ∀ i (h : i < l.length), i < k + 1 → ¬ (l[i].fin = true ∧ l[i].owner = t)) := fun hc i h hi => by
        by_cases hik : i = k
        · subst hik; exact hc
        · exact HP.out i h (by omega)
      clear hcell hd HP e2 e3 e4
      obtain ⟨xf, hxf⟩ : ∃ xf, l[k].fin = xf := ⟨_, rfl⟩
      obtain ⟨xo, hxo⟩ : ∃ xo, l[k].owner = xo := ⟨_, rfl⟩
      rw [hxf] at e0 YES CONT
      rw [hxo] at e1 YES CONT
      clear hxf hxo
      cases xf with
      | false =>
        go_wp2_with fail
        go_roundg (gk - 1)
        case measure => omega
        case rel => exact ⟨rfl, k + 1, by omega, by go_num, CONT.out (by simp)⟩
      | true =>
        by_cases hq : xo = t
        · subst hq
          go_wp2_with fail
          go_ret
          exact ⟨ret_bool (by rw [HR.out]; exact (YES.out (by first | exact rfl | exact trivial) (by first | exact rfl | exact trivial)).symm), rfl⟩
        · have hq' : (xo == t) = false := by simpa using hq
          have hqq := hide hq
          go_wp2_with fail
          go_roundg (gk - 1)
          case measure => omega
          case rel => exact ⟨rfl, k + 1, by omega, by go_num, CONT.out (fun h => hqq.out h.2)⟩
    · have HN := hide (endB_no (l := l) (t := t) (fun i h => HP.out i h (by omega)))
      clear hd HP
      go_wp2_with fail
      go_ret
      exact ⟨ret_bool (by rw [HR.out, HN.out]), rfl⟩

set_option maxHeartbeats 4000000 in
theorem isIn_any (v : Value) (ns : List Int) (t : Int) (w : World) (h : Nums w v ns) :
    Calls Try.prog 16 #[v, .int .i64 t] w fun e w' => e = .returned (.bool (ns.contains t)) ∧ w = w' := by
  obtain ⟨a, cap, rfl, hl, hcap, hd⟩ := h
  obtain ⟨R, hR⟩ : ∃ R, R = ns.contains t := ⟨_, rfl⟩
  rw [← hR]
  have HR := hide hR
  clear hR
  go_enter Try.func16, Try.ntmps16
  go_wp2_with fail
  go_loopg [5] ns.length (fun gk sk wr => wr = w ∧ ∃ k : Nat, k + gk = ns.length ∧ sk = .int .i64 (k : Int) ∧ ∀ i (h : i < ns.length), i < k → ns[i] ≠ t)
  case atStart => exact ⟨rfl, 0, by omega, rfl, fun i _ hi => by omega⟩
  case round =>
    obtain ⟨rfl, k, hk, rfl, hP⟩ := hrel
    have HP := hide hP
    clear hP
    by_cases hlt : k < ns.length
    · obtain ⟨b, off, rfl, hbb, hcell⟩ := hd.resolve_left (by rintro rfl; simp at hlt)
      have e0 := hcell k hlt
      have YES : Hid (ns[k] = t → R = true) := fun he => by rw [HR.out, List.contains_iff_mem, ← he]; exact List.getElem_mem hlt
      have CONT : Hid (ns[k] ≠ t → ∀ i (h : i < ns.length), i < k + 1 → ns[i] ≠ t) := fun hc i h hi => by
        by_cases hik : i = k
        · subst hik; exact hc
        · exact HP.out i h (by omega)
      clear hcell hd HP
      obtain ⟨x, hx⟩ : ∃ x, ns[k] = x := ⟨_, rfl⟩
      rw [hx] at e0 YES CONT
      clear hx
      by_cases hq : x = t
      · subst hq
        go_wp2_with fail
        go_ret
        exact ⟨ret_bool (YES.out (by first | exact rfl | exact trivial)).symm, rfl⟩
      · have hq' : (x == t) = false := by simpa using hq
        have hqq := hide hq
        go_wp2_with fail
        go_roundg (gk - 1)
        case measure => omega
        case rel => exact ⟨rfl, k + 1, by omega, by go_num, CONT.out hqq.out⟩
    · have HN : Hid (R = false) := by
        unfold Hid
        rw [HR.out]
        cases hq : ns.contains t with
        | false => rfl
        | true =>
          rw [List.contains_iff_mem] at hq
          obtain ⟨i, hi, he⟩ := List.getElem_of_mem hq
          exact absurd he (HP.out i hi (by omega))
      clear hd HP
      go_wp2_with fail
      go_ret
      exact ⟨ret_bool HN.out.symm, rfl⟩

end Go.Proofs.Ytnicjpfkiblimaa
