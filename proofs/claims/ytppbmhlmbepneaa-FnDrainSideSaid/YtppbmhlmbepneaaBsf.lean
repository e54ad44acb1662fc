/-
  slices.BinarySearchFunc at items: by the number of a row, and by an item.
-/
import Derived.Test.YtppbmhlmbepneaaOnl
set_option linter.all false
namespace Go.Proofs.Ytppbmhlmbepneaa
open Go.RowKit
set_option maxHeartbeats 1000000 in
theorem findCmp_any (e : Itm) (n : Int) (w : World) (h0 : 0 ≤ e.r) (h1 : e.r ≤ 99) (h2 : 0 ≤ n) (h3 : n ≤ 100) :
    Calls Try.prog 90 #[.agg #[.int .i64 e.k, .int .i64 e.r], .int .i64 n] w fun x w' => x = .returned (.int .i64 (e.r - n)) ∧ Below w.heap.size w w' := by
  go_enter Try.func90, Try.ntmps90
  go_wp2_with fail
  go_ret
  exact ⟨rfl, below_box _ _⟩
theorem half_lt {i j : Nat} (h : i < j) : i ≤ (i + j) / 2 ∧ (i + j) / 2 < j := by omega
def BsR (l : List Itm) (n : Int) (i j : Nat) : Prop := (∀ t (ht : t < l.length), t < i → l[t].r < n) ∧ (∀ t (ht : t < l.length), j ≤ t → n ≤ l[t].r)
theorem BsR.low {l : List Itm} {n : Int} {i j m : Nat} (hA : AscR l) (h : BsR l n i j) (hm : m < l.length) (hlt : l[m].r < n) : BsR l n (m + 1) j :=
  ⟨fun t ht htm => by
    by_cases c : t = m
    · subst c; exact hlt
    · have := List.pairwise_iff_getElem.1 hA t m ht hm (by omega)
      unfold nextr at this; omega, h.2⟩
theorem BsR.high {l : List Itm} {n : Int} {i j m : Nat} (hA : AscR l) (h : BsR l n i j) (hm : m < l.length) (hge : n ≤ l[m].r) : BsR l n i m :=
  ⟨h.1, fun t ht htm => by
    by_cases c : t = m
    · subst c; exact hge
    · have := List.pairwise_iff_getElem.1 hA m t hm ht (by omega)
      unfold nextr at this; omega⟩
theorem BsR.fin {l : List Itm} {n : Int} {i : Nat} (hA : AscR l) (h : BsR l n i i) (hi : i ≤ l.length) : posR l n = i ∧ (hasR l n = true ↔ ∃ hk : i < l.length, l[i].r = n) :=
  ⟨posR_of hA n hi h.1 h.2, hasR_of hA n hi h.1 h.2⟩
def BsRet (w : World) (p : Nat) (b : Bool) (e : Ending) (w' : World) : Prop := e = .returned (.tuple #[.int .i64 (p : Int), .bool b]) ∧ Below w.heap.size w w'
set_option maxHeartbeats 8000000 in
theorem bsR_any (v : Value) (l : List Itm) (n : Int) (w : World) (h : Itms w v l) (hA : AscR l) (ho : ∀ x ∈ l, okI x = true) (hl1000 : l.length ≤ 1000) (hn0 : 0 ≤ n) (hn1 : n ≤ 100) :
    Calls Try.prog 89 #[v, .int .i64 n, .func (.func 90) #[] #[]] w (BsRet w (posR l n) (hasR l n)) := by
  obtain ⟨a, cap, rfl, hl, hcap, hd⟩ := h
  have HA := hide hA
  have HO := hide (fun i (hi : i < l.length) => ho l[i] (List.getElem_mem hi))
  obtain ⟨P, hP⟩ : ∃ P, posR l n = P := ⟨_, rfl⟩
  obtain ⟨B, hB⟩ : ∃ B, hasR l n = B := ⟨_, rfl⟩
  rw [hP, hB]
  have HP := hide hP
  have HB := hide hB
  clear hP hB hA ho
  go_enter Try.func89, Try.ntmps89
  go_wp2_with fail
  go_loopg [9, 10] l.length (fun gk s9 s10 wr => Below w.heap.size w wr ∧ ∃ i j : Nat, s9 = .int .i64 (i : Int) ∧ s10 = .int .i64 (j : Int) ∧ i ≤ j ∧ j ≤ l.length ∧ j - i ≤ gk ∧ BsR l n i j)
  case atStart => exact ⟨Below.refl _ _, 0, l.length, rfl, rfl, by omega, by omega, by omega, fun t _ ht => by omega, fun t ht ht' => by omega⟩
  case round =>
    obtain ⟨hbw, i, j, rfl, rfl, hij, hjl, hgk, hbs⟩ := hrel
    have HW := hide hbw
    have HS := hide hbs
    clear hbs
    by_cases hlt : i < j
    · obtain ⟨b, off, rfl, hbb, hcell⟩ := hd.resolve_left (by rintro rfl; simp at hjl; omega)
      obtain ⟨hm1, hm2⟩ := half_lt hlt
      obtain ⟨m, hm⟩ : ∃ m, (i + j) / 2 = m := ⟨_, rfl⟩
      rw [hm] at hm1 hm2
      have em : ((i : Int) + (j : Int)) / 2 = (m : Int) := by omega
      have hml : m < l.length := by omega
      obtain ⟨e0, e1⟩ := (hcell m hml).keep hbw
      have hok := HO.out m hml
      unfold okI at hok
      have hok := of_decide_eq_true hok
      have LOW := hide (fun h => HS.out.low HA.out hml h)
      have HIGH := hide (fun h => HS.out.high HA.out hml h)
      clear hm hcell hd hbw HS
      generalize l[m] = x at *
      obtain ⟨⟨-, -⟩, hr0, hr1⟩ := hok
      by_cases hq : x.r - n < 0
      · have dq : decide (x.r - n < 0) = true := decide_eq_true hq
        have HQ := hide hq
        clear hq
        go_wp2_with fail
        refine (findCmp_any x n _ hr0 hr1 hn0 hn1).mono ?_
        rintro e' w1 ⟨rfl, hb1⟩
        have H1 : Hid (Below w.heap.size w w1) := HW.out.trans (hb1.mono HW.out.size)
        clear hb1
        go_wp2_with fail
        go_roundg (j - (m + 1))
        case measure => omega
        case rel => exact ⟨H1.out, m + 1, j, by go_num, rfl, by omega, hjl, Nat.le_refl _, LOW.out (by have := HQ.out; omega)⟩
      · have dq : decide (x.r - n < 0) = false := decide_eq_false hq
        have HQ := hide hq
        clear hq
        go_wp2_with fail
        refine (findCmp_any x n _ hr0 hr1 hn0 hn1).mono ?_
        rintro e' w1 ⟨rfl, hb1⟩
        have H1 : Hid (Below w.heap.size w w1) := HW.out.trans (hb1.mono HW.out.size)
        clear hb1
        go_wp2_with fail
        go_roundg (m - i)
        case measure => omega
        case rel => exact ⟨H1.out, i, m, rfl, by first | rfl | go_num, by omega, by omega, Nat.le_refl _, HIGH.out (by have := HQ.out; omega)⟩
    · obtain rfl : j = i := by omega
      have FN := hide (HS.out.fin HA.out hjl)
      by_cases hil : j < l.length
      · obtain ⟨b, off, rfl, hbb, hcell⟩ := hd.resolve_left (by rintro rfl; simp at hil)
        obtain ⟨e0, e1⟩ := (hcell j hil).keep hbw
        have hok := HO.out j hil
        unfold okI at hok
        have hok := of_decide_eq_true hok
        have FB : Hid (hasR l n = true ↔ l[j].r = n) := ⟨fun h => (FN.out.2.1 h).2, fun h => FN.out.2.2 ⟨hil, h⟩⟩
        clear hcell hd hbw HS
        generalize l[j] = x at *
        obtain ⟨⟨-, -⟩, hr0, hr1⟩ := hok
        by_cases hq : x.r - n = 0
        · have dq : (x.r - n == 0) = true := by simpa using hq
          have HQ := hide hq
          clear hq
          go_wp2_with fail
          refine (findCmp_any x n _ hr0 hr1 hn0 hn1).mono ?_
          rintro e' w1 ⟨rfl, hb1⟩
          have H1 : Hid (Below w.heap.size w w1) := HW.out.trans (hb1.mono HW.out.size)
          clear hb1
          have hp : P = j := HP.out.symm.trans FN.out.1
          have hb : B = true := HB.out.symm.trans (FB.out.2 (by have := HQ.out; omega))
          subst hp
          subst hb
          go_wp2_with fail
          go_ret2
          exact ⟨rfl, H1.out⟩
        · have dq : (x.r - n == 0) = false := by simpa using hq
          have HQ := hide hq
          clear hq
          go_wp2_with fail
          refine (findCmp_any x n _ hr0 hr1 hn0 hn1).mono ?_
          rintro e' w1 ⟨rfl, hb1⟩
          have H1 : Hid (Below w.heap.size w w1) := HW.out.trans (hb1.mono HW.out.size)
          clear hb1
          have hp : P = j := HP.out.symm.trans FN.out.1
          have hb : B = false := by
            rw [← HB.out]
            cases hc : hasR l n with
            | false => rfl
            | true => have := FB.out.1 hc; have := HQ.out; omega
          subst hp
          subst hb
          go_wp2_with fail
          go_ret2
          exact ⟨rfl, H1.out⟩
      · clear hd hbw
        have hp : P = j := HP.out.symm.trans FN.out.1
        have hb : B = false := by
          rw [← HB.out]
          cases hc : hasR l n with
          | false => rfl
          | true => obtain ⟨hk, _⟩ := FN.out.2.1 hc; omega
        subst hp
        subst hb
        go_wp2_with fail
        go_ret2
        exact ⟨rfl, HW.out⟩
end Go.Proofs.Ytppbmhlmbepneaa
