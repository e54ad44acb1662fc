/-
  The walk of FnCanBeUnique.
-/
import Derived.Test.YtppbmhlmbepneaaWkBase
import Derived.Test.YtppbmhlmbepneaaMovesGen2
set_option linter.all false
namespace Go.Proofs.Ytppbmhlmbepneaa
open Go.RowKit
set_option maxHeartbeats 16000000 in
set_option maxRecDepth 100000 in
theorem fnCanBeUnique_walk (v : Value) (w : World) (h : BytesAt w v) :
    Calls Try.prog 10 #[v] w fun e w' => e = .returned (.bool true) ∧ Below w.heap.size w w' := by
  have hB := hide h
  obtain ⟨a, len, cap0, rfl, hlc, hcap0, hr⟩ := h
  clear hr
  obtain ⟨i0, hi, hz0, hz1, hz2⟩ := info_parts infoMove
  by_cases hlen : 1048576 < len
  · go_enter Try.func10, Try.ntmps10
    go_wp2_with fail
    go_ret
    exact ⟨rfl, Below.refl _ _⟩
  go_enter Try.func10, Try.ntmps10
  go_wp2_with fail
  refine (drawCanBeUnique_any _ _ hB.out).mono ?_
  rintro e w1 ⟨vr, l, vm, ms, rfl, hoi, hom, hl9, hm17, hb⟩
  have H := hide hb
  have RI := hide hoi.itms
  have RM := hide hom.rows
  have NL := hide (nilOk_own hoi)
  have OM := hide hom
  obtain ⟨ra0, rc0, rfl, -⟩ := own_slc hoi
  obtain ⟨ma0, mc0, rfl, -⟩ := own_slc hom
  clear hb hoi hom hB hlen hlc hcap0
  go_wp2_with fail
  refine (iCanBeUnique_any _ _ l ms _ RI.out RM.out).mono ?_
  rintro e w2 ⟨r2, rfl, hrel, hb⟩
  have H : Hid (Below w.heap.size w w2) := H.out.trans (hb.mono H.out.size)
  have RI := hide (RI.out.keep hb)
  have RM := hide (RM.out.keep hb)
  have CK2 := hide hrel
  clear hrel hb
  go_wp2_with fail
  refine (sCanBeUnique_any _ _ l ms _ RI.out NL.out RM.out).mono ?_
  rintro e w3 ⟨r3, rfl, hrel, hb⟩
  have H : Hid (Below w.heap.size w w3) := H.out.trans (hb.mono H.out.size)
  have RI := hide (RI.out.keep hb)
  have RM := hide (RM.out.keep hb)
  have CK3 := hide hrel
  clear hrel hb
  have hu := CanOf.uniq CK3.out CK2.out
  subst hu
  go_wp2_with fail
  refine (iRowsAfter_any _ _ l ms _ RI.out RM.out).mono ?_
  rintro e w4 ⟨v4, r4, rfl, hrel, ho, hb⟩
  have H : Hid (Below w.heap.size w w4) := H.out.trans (hb.mono H.out.size)
  have RI := hide (RI.out.keep hb)
  have RM := hide (RM.out.keep hb)
  have CK4 := hide hrel
  have V4 := hide ho.itms
  obtain ⟨a4, c4, rfl, -⟩ := own_slc ho
  clear hrel hb ho
  have HLL := hide CK4.out.len
  obtain ⟨oa, oc, hoe, hol, hoc, hod⟩ := V4.out
  injection hoe with hoe1 hoe2 hoe3
  subst hoe1 hoe3
  clear hoe2
  cases r3 with
  | true =>
    go_wp2_with fail
    go_loopg [7, 8] r4.length (fun gk s7 s8 wr => Below w4.heap.size w4 wr ∧ ∃ i : Nat, i + gk = r4.length ∧ s7 = .int .i64 (i : Int) ∧ Pairs r4 i)
    case atStart => exact ⟨Below.refl _ _, 0, by omega, rfl, pairs_0 _⟩
    case round =>
      obtain ⟨hbw, i, hk, rfl, hP⟩ := hrel
      have HW := hide hbw
      have HP := hide hP
      clear hP
      by_cases hlt : i < r4.length
      · obtain ⟨b, off, hbe, hbb, hcell⟩ := hod.resolve_left (by rintro rfl; simp at hlt)
        subst hbe
        have HC := hide hcell
        clear hcell hod hbw
        obtain ⟨G, hG⟩ : ∃ G, G = gk := ⟨_, rfl⟩
        go_wp2_with fail
        go_loopg [8] i (fun gq s8 wq => Below w4.heap.size w4 wq ∧ ∃ j : Nat, j + gq = i ∧ s8 = .int .i64 (j : Int) ∧ PairsAt r4 i j)
        case atStart => exact ⟨HW.out, 0, by omega, rfl, pairsAt_0 _ _⟩
        case round =>
          obtain ⟨hbq, j, hj, rfl, hQ⟩ := hrel
          have HQ := hide hbq
          have HPQ := hide hQ
          clear hQ
          by_cases hjl : j < i
          · have dj : decide ((j : Int) < (i : Int)) = true := decide_eq_true (by omega)
            have hjL : (j : Int) < (r4.length : Int) := by omega
            have hiL : (i : Int) < (r4.length : Int) := by omega
            have f0 := ((HC.out j (by omega)).keep hbq).1
            have g0 := ((HC.out i hlt).keep hbq).1
            have HST := hide (fun h => pairsAt_step (r := r4) (i := i) (j := j) HPQ.out hjl hlt h)
            have HBAD := hide (fun (q : r4[i].k = (r4[j]'(by omega)).k) (hd : ∀ a b (ha : a < r4.length) (hb : b < a), r4[a].k ≠ (r4[b]'(by omega)).k) => hd i j hlt hjl q)
            have HNO := hide (CK2.out.yes CK4.out i j hlt hjl)
            clear hbq
            generalize r4[i].k = xk at *
            generalize (r4[j]'(by omega)).k = yk at *
            by_cases hxy : xk = yk
            · exact absurd hxy HNO.out
            · have hxy' : (xk == yk) = false := by simpa using hxy
              have HS1 := hide (HST.out hxy)
              go_wp2_with fail
              go_quiet (fail)
              go_wp2_with fail
              go_roundg (gk - 1)
              case measure => omega
              case rel => exact ⟨below_drewN HQ.out _, j + 1, by omega, by go_num, HS1.out⟩
          · have hji : j = i := by omega
            subst hji
            have dj : decide ((j : Int) < (j : Int)) = false := decide_eq_false (by omega)
            have HS2 := hide (pairs_step HP.out HPQ.out)
            clear hbq
            go_wp2_with fail
            go_roundg (G - 1)
            case measure => omega
            case rel => exact ⟨HQ.out, j + 1, by omega, by go_num, HS2.out⟩
      · have hil : i = r4.length := by omega
        subst hil
        clear hbw hod
        go_wp2_with fail
        go_ret
        exact ⟨rfl, H.out.trans (HW.out.mono H.out.size)⟩
  | false =>
    go_wp2_with fail
    go_loopg [7, 8] r4.length (fun gk s7 s8 wr => Below w4.heap.size w4 wr ∧ ∃ i : Nat, i + gk = r4.length ∧ s7 = .int .i64 (i : Int) ∧ Pairs r4 i)
    case atStart => exact ⟨Below.refl _ _, 0, by omega, rfl, pairs_0 _⟩
    case round =>
      obtain ⟨hbw, i, hk, rfl, hP⟩ := hrel
      have HW := hide hbw
      have HP := hide hP
      clear hP
      by_cases hlt : i < r4.length
      · obtain ⟨b, off, hbe, hbb, hcell⟩ := hod.resolve_left (by rintro rfl; simp at hlt)
        subst hbe
        have HC := hide hcell
        clear hcell hod hbw
        obtain ⟨G, hG⟩ : ∃ G, G = gk := ⟨_, rfl⟩
        go_wp2_with fail
        go_loopg [8] i (fun gq s8 wq => Below w4.heap.size w4 wq ∧ ∃ j : Nat, j + gq = i ∧ s8 = .int .i64 (j : Int) ∧ PairsAt r4 i j)
        case atStart => exact ⟨HW.out, 0, by omega, rfl, pairsAt_0 _ _⟩
        case round =>
          obtain ⟨hbq, j, hj, rfl, hQ⟩ := hrel
          have HQ := hide hbq
          have HPQ := hide hQ
          clear hQ
          by_cases hjl : j < i
          · have dj : decide ((j : Int) < (i : Int)) = true := decide_eq_true (by omega)
            have hjL : (j : Int) < (r4.length : Int) := by omega
            have hiL : (i : Int) < (r4.length : Int) := by omega
            have f0 := ((HC.out j (by omega)).keep hbq).1
            have g0 := ((HC.out i hlt).keep hbq).1
            have HST := hide (fun h => pairsAt_step (r := r4) (i := i) (j := j) HPQ.out hjl hlt h)
            have HBAD := hide (fun (q : r4[i].k = (r4[j]'(by omega)).k) (hd : ∀ a b (ha : a < r4.length) (hb : b < a), r4[a].k ≠ (r4[b]'(by omega)).k) => hd i j hlt hjl q)
            skip
            clear hbq
            generalize r4[i].k = xk at *
            generalize (r4[j]'(by omega)).k = yk at *
            by_cases hxy : xk = yk
            · skip
              have hxy' : (xk == yk) = true := by simpa using hxy
              subst hxy
              go_wp2_with fail
              go_quiet (fail)
              go_wp2_with fail
              go_ret
              exact ⟨rfl, below_drewN (H.out.trans (HQ.out.mono H.out.size)) _⟩
            · have hxy' : (xk == yk) = false := by simpa using hxy
              have HS1 := hide (HST.out hxy)
              go_wp2_with fail
              go_quiet (fail)
              go_wp2_with fail
              go_roundg (gk - 1)
              case measure => omega
              case rel => exact ⟨below_drewN HQ.out _, j + 1, by omega, by go_num, HS1.out⟩
          · have hji : j = i := by omega
            subst hji
            have dj : decide ((j : Int) < (j : Int)) = false := decide_eq_false (by omega)
            have HS2 := hide (pairs_step HP.out HPQ.out)
            clear hbq
            go_wp2_with fail
            go_roundg (G - 1)
            case measure => omega
            case rel => exact ⟨HQ.out, j + 1, by omega, by go_num, HS2.out⟩
      · have hil : i = r4.length := by omega
        subst hil
        have hz := CK2.out.no CK4.out (fun a b ha hb => HP.out a b ha hb ha)
        have dz : ((r4.length : Int) == 0) = true := by simp [hz]
        clear hbw hod hz
        go_wp2_with fail
        go_ret
        exact ⟨rfl, H.out.trans (HW.out.mono H.out.size)⟩
end Go.Proofs.Ytppbmhlmbepneaa
