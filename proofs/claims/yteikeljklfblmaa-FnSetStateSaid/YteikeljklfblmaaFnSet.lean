/-
  The walk of FnSetState.
-/
import Derived.Test.YteikeljklfblmaaCatLaw2
set_option linter.all false
namespace Go.Proofs.Yteikeljklfblmaa
open Go.RowKit
set_option maxHeartbeats 4000000 in
set_option maxRecDepth 100000 in
theorem fnSetState_walk (v : Value) (w : World) (h : BytesAt w v) :
    Calls Try.prog 9 #[v] w fun e w' => e = .returned (.bool true) ∧ Below w.heap.size w w' := by
  have hB := hide h
  obtain ⟨a, len, cap0, rfl, hlc, hcap0, hr⟩ := h
  clear hr
  by_cases hlen : 1048576 < len
  · go_enter Try.func9, Try.ntmps9
    go_wp2_with fail
    go_ret
    exact ⟨rfl, Below.refl _ _⟩
  go_enter Try.func9, Try.ntmps9
  go_wp2_with fail
  refine (drawSetState_any _ _ hB.out).mono ?_
  rintro e w1 ⟨g0, cap, l, nm, st, rfl, hnz, hcp, D⟩
  have H := hide D.below
  have hl13 := D.len
  have SZ := hide (sz_big D.sz)
  have E := hide (OwnE.ents D.own (sz_big D.sz))
  clear D hB
  obtain ⟨ok, hok⟩ : ∃ ok, setOk l nm st = ok := ⟨_, rfl⟩
  obtain ⟨R, hR⟩ : ∃ R, setR l nm st = R := ⟨_, rfl⟩
  have RZ : Hid (∀ e ∈ R, e.n.size ≤ 9223372036854775807 ∧ e.t.size ≤ 9223372036854775807) := by rw [← hR]; exact setR_sizes SZ.out nm st
  have HOK := hide hok
  have HR := hide hR
  clear hok hR
  go_wp2_with fail
  refine (iSetState_any nm st _ l _ E.out).mono ?_
  rintro e w2 ⟨v2, rfl, ho, hb⟩
  rw [HOK.out]
  rw [HR.out] at ho
  have A := hide (ho.ents RZ.out)
  have E := hide (E.out.keep hb)
  have H : Hid (Below w.heap.size w w2) := H.out.trans (hb.mono H.out.size)
  clear ho hb
  go_wp2_with fail
  refine (sSetState_any nm st _ l _ E.out).mono ?_
  rintro e w3 ⟨v3, rfl, ho, hb⟩
  rw [HOK.out]
  rw [HR.out] at ho
  have A := hide (A.out.keep hb)
  have B := hide (ho.ents RZ.out)
  have E := hide (E.out.keep hb)
  have H : Hid (Below w.heap.size w w3) := H.out.trans (hb.mono H.out.size)
  clear ho hb
  go_wp2_with fail
  refine (equalEntries_same v2 v3 R _ A.out B.out).mono ?_
  rintro e w4 ⟨rfl, hb⟩
  have A := hide (A.out.keep hb)
  have B := hide (B.out.keep hb)
  have E := hide (E.out.keep hb)
  have H : Hid (Below w.heap.size w w4) := H.out.trans (hb.mono H.out.size)
  clear hb
  cases ok with
  | false =>
    go_wp2_with fail
    refine (equalEntries_same v2 v3 R _ A.out B.out).mono ?_
    rintro e w5 ⟨rfl, hb⟩
    have H : Hid (Below w.heap.size w w5) := H.out.trans (hb.mono H.out.size)
    clear hb
    go_wp2_with fail
    go_ret
    exact ⟨rfl, H.out⟩
  | true =>
    have LW := set_law HOK.out
    rw [HR.out] at LW
    have L1 := hide LW.cat
    have L2 := hide LW.back
    have LE := hide LW.each
    have hlen2 : R.length = l.length := LW.len
    have HLL := hide hlen2
    clear LW
    obtain ⟨a1, cap1, hv1, hl1, hc1, hd1⟩ := E.out
    cases hv1
    obtain ⟨a2, cap2, rfl, hl2, hc2, hd2⟩ := A.out
    have A' := hide A.out
    rw [hlen2] at A'
    rw [hlen2]
    clear hlen2
    go_wp2_with fail
    go_loopg [10] l.length (fun gk s10 wr => Below w4.heap.size w4 wr ∧ ∃ k : Nat, k + gk = l.length ∧ s10 = .int .i64 (k : Int))
    case atStart => exact ⟨Below.refl _ _, 0, by omega, rfl⟩
    case round =>
      obtain ⟨hbw, k, hk, rfl⟩ := hrel
      have HW := hide hbw
      by_cases hlt : k < l.length
      · have hlt2 : k < R.length := by rw [HLL.out]; exact hlt
        obtain ⟨b, off, hab, hbb, hcell⟩ := hd1.resolve_left (by rintro rfl; simp at hlt)
        cases hab
        obtain ⟨b', off', rfl, hbb', hcell'⟩ := hd2.resolve_left (by rintro rfl; simp at hlt2)
        obtain ⟨e0, e1, e2, -⟩ := (hcell k hlt).keep hbw
        obtain ⟨f0, f1, f2, -⟩ := (hcell' k hlt2).keep hbw
        rw [Nat.zero_add] at e0 e1 e2
        obtain ⟨q1, q2, q3⟩ := LE.out k hlt hlt2
        rw [q1] at f0
        rw [q2] at f1
        clear hcell hd1 hcell' hd2 hbw q1 q2
        generalize R[k].s = y at *
        generalize l[k] = x at *
        have hklt : ¬ ((l.length : Int) ≤ (k : Int)) := by omega
        have hklt' : decide ((l.length : Int) ≤ (k : Int)) = false := decide_eq_false hklt
        rcases q3 with ⟨n1, n2⟩ | ⟨n1, n2⟩
        · subst n1
          have n3 : decide (x.s < y) = true := decide_eq_true n2
          go_wp2_with fail
          go_quiet (fail)
          go_wp2_with fail
          go_roundg (gk - 1)
          case measure => omega
          case rel => exact ⟨below_drewN HW.out _, k + 1, by omega, by go_num⟩
        · subst n2
          have m1 : ¬ x.n.toList = nm.toList := fun h => n1 (text_ext h)
          have m2 : (x.n.toList == nm.toList) = false := by simpa using m1
          have m3 : decide (x.s < x.s) = false := decide_eq_false (by omega)
          have m4 : ¬ x.s < x.s := by omega
          go_wp2_with fail
          go_quiet (fail)
          go_wp2_with fail
          go_roundg (gk - 1)
          case measure => omega
          case rel => exact ⟨below_drewN HW.out _, k + 1, by omega, by go_num⟩
      · have A := hide (A.out.keep hbw)
        have H : Hid (Below w.heap.size w wr) := H.out.trans (hbw.mono H.out.size)
        clear hd1 hd2 hbw A'
        rw [HLL.out] at A
        go_wp2_with fail
        refine (iSetState_any nm 0 _ R _ A.out).mono ?_
        rintro e w5 ⟨v5, rfl, -, hb⟩
        rw [L2.out]
        have A := hide (A.out.keep hb)
        have H : Hid (Below w.heap.size w w5) := H.out.trans (hb.mono H.out.size)
        clear hb
        go_wp2_with fail
        refine (ivalidCatalog_any _ R _ A.out).mono ?_
        rintro e w6 ⟨rfl, hb⟩
        rw [L1.out]
        have H : Hid (Below w.heap.size w w6) := H.out.trans (hb.mono H.out.size)
        clear hb
        go_wp2_with fail
        go_ret
        exact ⟨by first | rfl | simp, H.out⟩
end Go.Proofs.Yteikeljklfblmaa
