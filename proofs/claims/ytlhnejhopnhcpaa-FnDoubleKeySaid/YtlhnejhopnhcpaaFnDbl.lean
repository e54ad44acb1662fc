/-
  The plain law of double keys; the walk of FnDoubleKey.
-/
import Derived.Test.YtlhnejhopnhcpaaItemDraw
set_option linter.all false
namespace Go.Proofs.Ytlhnejhopnhcpaa
open Go.RowKit
def cnt (n : Int) (l : List Itm) : Nat := (l.filter (fun e => e.k == n)).length
theorem cnt_take {l : List Itm} {k : Nat} (h : k < l.length) (n : Int) : cnt n (l.take (k + 1)) = cnt n (l.take k) + (if l[k].k = n then 1 else 0) := by
  unfold cnt
  rw [take_filterI h, List.length_append]
  by_cases hq : l[k].k = n <;> simp [hq]
theorem cnt_le (n : Int) (l : List Itm) (k : Nat) : cnt n (l.take k) ≤ k := Nat.le_trans (List.length_filter_le _ _) (by rw [List.length_take]; omega)
theorem ord_le {l : List Itm} (h : ordI l) : ∀ (d i : Nat) (hi : i + d < l.length), (l[i]'(by omega)).k ≤ l[i + d].k := by
  intro d
  induction d with
  | zero => intro i hi; exact Int.le_refl _
  | succ d ih =>
    intro i hi
    have h1 := ih i (by omega)
    have h2 := (h (i + (d + 1)) hi).2 (by omega)
    simp only [lessI, decide_eq_true_eq] at h2
    have h3 : (l[i + (d + 1) - 1]'(by omega)).k = (l[i + d]'(by omega)).k := by congr 1
    rw [h3] at h2
    omega
theorem dk_law {l : List Itm} {n : Int} (h : DK l n) (h0 : 0 ≤ n) : 2 ≤ cnt n l ∧ ∀ i j (hi : i < l.length) (hj : j < i), l[i].k = (l[j]'(by omega)).k → ¬ l[i].k < n := by
  rcases h with ⟨⟨ho, -⟩, hd⟩ | ⟨-, rfl⟩
  · rcases hd with ⟨j0, hj0, he, hn, hmin⟩ | ⟨rfl, -⟩
    · refine ⟨?_, ?_⟩
      · have hs : ((l.drop j0).filter (fun e => e.k == n)).length ≤ cnt n l := ((List.drop_sublist j0 l).filter _).length_le
        rw [List.drop_eq_getElem_cons (by omega), List.drop_eq_getElem_cons hj0] at hs
        have q1 : (l[j0].k == n) = true := by simp [he, hn]
        have q2 : (l[j0 + 1].k == n) = true := by simp [hn]
        simp only [List.filter_cons, q1, q2, if_true, List.length_cons] at hs
        omega
      · intro i j hi hj heq hlt
        have a1 := ord_le ho 1 j (by omega)
        have a2 := ord_le ho (i - (j + 1)) (j + 1) (by omega)
        have a3 : (l[j + 1 + (i - (j + 1))]'(by omega)).k = l[i].k := by congr 2; omega
        rw [a3] at a2
        have hjj : (l[j]'(by omega)).k = (l[j + 1]'(by omega)).k := by omega
        by_cases hc : j < j0
        · exact hmin j hc hjj
        · have b1 := ord_le ho (j - j0) j0 (by omega)
          have b2 : (l[j0 + (j - j0)]'(by omega)).k = (l[j]'(by omega)).k := by congr 2; omega
          rw [b2] at b1
          omega
    · omega
  · omega
set_option maxHeartbeats 8000000 in
set_option maxRecDepth 100000 in
theorem fnDoubleKey_walk (v : Value) (w : World) (h : BytesAt w v) :
    Calls Try.prog 4 #[v] w fun e w' => e = .returned (.bool true) ∧ Below w.heap.size w w' := by
  have hB := hide h
  obtain ⟨a, len, cap0, rfl, hlc, hcap0, hr⟩ := h
  clear hr
  by_cases hlen : 1048576 < len
  · go_enter Try.func4, Try.ntmps4
    go_wp2_with fail
    go_ret
    exact ⟨rfl, Below.refl _ _⟩
  go_enter Try.func4, Try.ntmps4
  go_wp2_with fail
  refine (drawDoubleKey_any _ _ hB.out).mono ?_
  rintro e w1 ⟨v1, l, rfl, hI, hb⟩
  have E := hide hI
  have H := hide hb
  clear hI hb hB
  go_wp2_with fail
  refine (iDoubleKey_any v1 l _ E.out).mono ?_
  rintro e w2 ⟨n, rfl, hN, hb⟩
  have HN := hide hN
  have E := hide (E.out.keep hb)
  have H : Hid (Below w.heap.size w w2) := H.out.trans (hb.mono H.out.size)
  clear hN hb
  go_wp2_with fail
  refine (sDoubleKey_any v1 l _ E.out).mono ?_
  rintro e w3 ⟨m, rfl, hM, hb⟩
  have hnm := hM.uniq HN.out
  subst hnm
  have E := hide (E.out.keep hb)
  have H : Hid (Below w.heap.size w w3) := H.out.trans (hb.mono H.out.size)
  clear hM hb
  obtain ⟨a1, cap1, rfl, hl1, hc1, hd1⟩ := E.out
  by_cases hn0 : 0 ≤ m
  · have LW := hide (dk_law HN.out hn0)
    have dn : decide (0 ≤ m) = true := decide_eq_true hn0
    have dn' : decide (m < 0) = false := decide_eq_false (by omega)
    clear HN
    go_wp2_with fail
    go_loopg [5, 6, 7] l.length (fun gk s5 s6 s7 wr => Below w3.heap.size w3 wr ∧ ∃ i : Nat, i + gk = l.length ∧ s6 = .int .i64 (i : Int) ∧ s5 = .int .i64 ((cnt m (l.take i) : Nat) : Int))
    case atStart => exact ⟨Below.refl _ _, 0, by omega, rfl, rfl⟩
    case round =>
      obtain ⟨hbw, i, hk, rfl, rfl⟩ := hrel
      have HW := hide hbw
      by_cases hlt : i < l.length
      · have HT := hide (cnt_take hlt m)
        have hcl := cnt_le m l i
        obtain ⟨b, off, rfl, hbb, hcell⟩ := hd1.resolve_left (by rintro rfl; simp at hlt)
        have HC := hide hcell
        have Ei := hide ((hcell i hlt).keep hbw)
        have e0 := Ei.out.1
        have PL := hide (fun j (hj : j < i) => LW.out.2 i j hlt hj)
        have GL : Hid (∀ j (hj : j < i), (l[j]'(by omega)) = (l[j]'(by omega))) := fun _ _ => rfl
        clear hcell hd1 hbw
        obtain ⟨x, hx⟩ : ∃ x, l[i] = x := ⟨_, rfl⟩
        rw [hx] at e0 HT Ei
        have HX := hide hx
        clear hx
        obtain ⟨xk, hxk⟩ : ∃ xk, x.k = xk := ⟨_, rfl⟩
        rw [hxk] at e0 HT
        have HXK := hide hxk
        clear hxk Ei
        obtain ⟨c0, hc0⟩ : ∃ c, cnt m (l.take i) = c := ⟨_, rfl⟩
        obtain ⟨c1, hc1'⟩ : ∃ c, cnt m (l.take (i + 1)) = c := ⟨_, rfl⟩
        rw [hc0, hc1'] at HT
        rw [hc0] at hcl
        rw [hc0]
        have HC1 := hide hc1'
        clear hc0 hc1'
        by_cases hq : xk = m
        · have hq' : (xk == m) = true := by simp [hq]
          have HCC : Hid (c1 = c0 + 1) := by unfold Hid; rw [HT.out, if_pos hq]
          clear HT hq'
          subst hq
          have hcl2 : (c0 : Int) < 9223372036854775807 := by omega
          obtain ⟨G, hG⟩ : ∃ G, G = gk := ⟨_, rfl⟩
          go_wp2_with fail
          go_loopg [7] i (fun gq s7 wq => Below w3.heap.size w3 wq ∧ ∃ j : Nat, j + gq = i ∧ s7 = .int .i64 (j : Int))
          case atStart => exact ⟨HW.out, 0, by omega, rfl⟩
          case round =>
            obtain ⟨hbq, j, hj, rfl⟩ := hrel
            have HQ := hide hbq
            by_cases hjl : j < i
            · have dj : decide ((j : Int) < (i : Int)) = true := decide_eq_true (by omega)
              have hjL : (j : Int) < (l.length : Int) := by omega
              have hiL : (i : Int) < (l.length : Int) := by omega
              have hjL' : j < l.length := by omega
              have Ej := hide ((HC.out j (by omega)).keep hbq)
              have f0 := Ej.out.1
              have g0 := ((HC.out i hlt).keep hbq).1
              have PJ := hide (PL.out j hjl)
              rw [HX.out, HXK.out] at g0 PJ
              clear hbq e0
              obtain ⟨yk, hyk⟩ : ∃ yk, l[j].k = yk := ⟨_, rfl⟩
              rw [hyk] at f0 PJ
              clear hyk Ej
              by_cases hxy : xk = yk
              · have hnl := PJ.out hxy
                subst hxy
                have hnl' : decide (xk < xk) = false := decide_eq_false (by omega)
                go_wp2_with fail
                go_quiet (fail)
                go_wp2_with fail
                go_roundg (gk - 1)
                case measure => omega
                case rel => exact ⟨below_drewN HQ.out _, j + 1, by omega, by go_num⟩
              · have hxy' : (xk == yk) = false := by simpa using hxy
                go_wp2_with fail
                go_quiet (fail)
                go_wp2_with fail
                go_roundg (gk - 1)
                case measure => omega
                case rel => exact ⟨below_drewN HQ.out _, j + 1, by omega, by go_num⟩
            · have hji : j = i := by omega
              subst hji
              have dj : decide ((j : Int) < (j : Int)) = false := decide_eq_false (by omega)
              clear hbq e0
              go_wp2_with fail
              go_roundg (G - 1)
              case measure => omega
              case rel => exact ⟨HQ.out, j + 1, by omega, by go_num, by rw [HC1.out, HCC.out]; go_num⟩
        · have hq' : (xk == m) = false := by simpa using hq
          have HCC : Hid (c1 = c0) := by unfold Hid; rw [HT.out, if_neg hq]; rfl
          obtain ⟨G, hG⟩ : ∃ G, G = gk := ⟨_, rfl⟩
          go_wp2_with fail
          go_loopg [7] i (fun gq s7 wq => Below w3.heap.size w3 wq ∧ ∃ j : Nat, j + gq = i ∧ s7 = .int .i64 (j : Int))
          case atStart => exact ⟨HW.out, 0, by omega, rfl⟩
          case round =>
            obtain ⟨hbq, j, hj, rfl⟩ := hrel
            have HQ := hide hbq
            by_cases hjl : j < i
            · have dj : decide ((j : Int) < (i : Int)) = true := decide_eq_true (by omega)
              have hjL : (j : Int) < (l.length : Int) := by omega
              have hiL : (i : Int) < (l.length : Int) := by omega
              have hjL' : j < l.length := by omega
              have Ej := hide ((HC.out j (by omega)).keep hbq)
              have f0 := Ej.out.1
              have g0 := ((HC.out i hlt).keep hbq).1
              have PJ := hide (PL.out j hjl)
              rw [HX.out, HXK.out] at g0 PJ
              clear hbq e0
              obtain ⟨yk, hyk⟩ : ∃ yk, l[j].k = yk := ⟨_, rfl⟩
              rw [hyk] at f0 PJ
              clear hyk Ej
              by_cases hxy : xk = yk
              · have hnl := PJ.out hxy
                subst hxy
                have hnl' : decide (xk < m) = false := decide_eq_false (by omega)
                go_wp2_with fail
                go_quiet (fail)
                go_wp2_with fail
                go_roundg (gk - 1)
                case measure => omega
                case rel => exact ⟨below_drewN HQ.out _, j + 1, by omega, by go_num⟩
              · have hxy' : (xk == yk) = false := by simpa using hxy
                go_wp2_with fail
                go_quiet (fail)
                go_wp2_with fail
                go_roundg (gk - 1)
                case measure => omega
                case rel => exact ⟨below_drewN HQ.out _, j + 1, by omega, by go_num⟩
            · have hji : j = i := by omega
              subst hji
              have dj : decide ((j : Int) < (j : Int)) = false := decide_eq_false (by omega)
              clear hbq e0
              go_wp2_with fail
              go_roundg (G - 1)
              case measure => omega
              case rel => exact ⟨HQ.out, j + 1, by omega, by go_num, by rw [HC1.out, HCC.out]⟩
      · have hik : i = l.length := by omega
        subst hik
        rw [List.take_length]
        have h2 : (2 : Int) ≤ ((cnt m l : Nat) : Int) := by have := LW.out.1; omega
        have H' : Hid (Below w.heap.size w wr) := H.out.trans (hbw.mono H.out.size)
        clear hd1 hbw
        go_wp2_with fail
        go_ret
        exact ⟨by first | rfl | (simp; omega) | simp, H'.out⟩
  · have dn : decide (0 ≤ m) = false := decide_eq_false hn0
    have dn' : decide (m < 0) = true := decide_eq_true (by omega)
    clear HN
    go_wp2_with fail
    go_loopg [5, 6, 7] l.length (fun gk s5 s6 s7 wr => wr = w3 ∧ ∃ i : Nat, i + gk = l.length ∧ s6 = .int .i64 (i : Int) ∧ s5 = .int .i64 0)
    case atStart => exact ⟨rfl, 0, by omega, rfl, rfl⟩
    case round =>
      obtain ⟨rfl, i, hk, rfl, rfl⟩ := hrel
      by_cases hlt : i < l.length
      · clear hd1
        obtain ⟨G, hG⟩ : ∃ G, G = gk := ⟨_, rfl⟩
        go_wp2_with fail
        go_loopg [7] 0 (fun gq s7 wq => wq = wr ∧ s7 = .int .i64 0)
        case atStart => exact ⟨rfl, rfl⟩
        case round =>
          obtain ⟨rfl, rfl⟩ := hrel
          by_cases hi0 : (0 : Int) < (i : Int)
          · have di : decide ((0 : Int) < (i : Int)) = true := decide_eq_true hi0
            go_wp2_with fail
            go_roundg (G - 1)
            case measure => omega
            case rel => exact ⟨rfl, i + 1, by omega, by go_num, rfl⟩
          · have di : decide ((0 : Int) < (i : Int)) = false := decide_eq_false hi0
            go_wp2_with fail
            go_roundg (G - 1)
            case measure => omega
            case rel => exact ⟨rfl, i + 1, by omega, by go_num, rfl⟩
      · clear hd1
        go_wp2_with fail
        go_ret
        exact ⟨by first | rfl | simp, H.out⟩
end Go.Proofs.Ytlhnejhopnhcpaa
