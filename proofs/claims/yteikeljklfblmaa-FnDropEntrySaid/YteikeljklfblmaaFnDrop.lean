/-
  The walk of FnDropEntry.
-/
import Derived.Test.YteikeljklfblmaaCatLaw
set_option linter.all false
namespace Go.Proofs.Yteikeljklfblmaa
open Go.RowKit
set_option maxHeartbeats 4000000 in
set_option maxRecDepth 100000 in
theorem fnDropEntry_walk (v : Value) (w : World) (h : BytesAt w v) :
    Calls Try.prog 5 #[v] w fun e w' => e = .returned (.bool true) ∧ Below w.heap.size w w' := by
  have hB := hide h
  obtain ⟨a, len, cap0, rfl, hlc, hcap0, hr⟩ := h
  clear hr
  by_cases hlen : 1048576 < len
  · go_enter Try.func5, Try.ntmps5
    go_wp2_with fail
    go_ret
    exact ⟨rfl, Below.refl _ _⟩
  go_enter Try.func5, Try.ntmps5
  go_wp2_with fail
  refine (drawDropEntry_any _ _ hB.out).mono ?_
  rintro e w1 ⟨g0, cap, l, nm, rfl, hnz, hcp, D⟩
  have H := hide D.below
  have hl13 := D.len
  have SZ := hide (sz_big D.sz)
  have E := hide (OwnE.ents D.own (sz_big D.sz))
  clear D hB
  obtain ⟨ok, hok⟩ : ∃ ok, dropOk l nm = ok := ⟨_, rfl⟩
  obtain ⟨R, hR⟩ : ∃ R, dropR l nm = R := ⟨_, rfl⟩
  have RZ : Hid (∀ e ∈ R, e.n.size ≤ 9223372036854775807 ∧ e.t.size ≤ 9223372036854775807) := by rw [← hR]; exact dropR_sizes SZ.out nm
  have HOK := hide hok
  have HR := hide hR
  clear hok hR
  go_wp2_with fail
  refine (iDropEntry_any nm _ l _ E.out).mono ?_
  rintro e w2 ⟨v2, rfl, ho, hb⟩
  rw [HOK.out]
  rw [HR.out] at ho
  have A := hide (ho.ents RZ.out)
  have E := hide (E.out.keep hb)
  have H : Hid (Below w.heap.size w w2) := H.out.trans (hb.mono H.out.size)
  clear ho hb
  go_wp2_with fail
  refine (sDropEntry_any nm _ l _ E.out).mono ?_
  rintro e w3 ⟨v3, rfl, ho, hb⟩
  rw [HOK.out]
  rw [HR.out] at ho
  have A := hide (A.out.keep hb)
  have B := hide (ho.ents RZ.out)
  have E := hide (E.out.keep hb)
  have H : Hid (Below w.heap.size w w3) := H.out.trans (hb.mono H.out.size)
  clear ho hb
  go_wp2_with fail
  refine (equalEntries_same v2 v3 R _ A.out B.out).mono ?_
  rintro e w4 ⟨rfl, hb⟩
  have A := hide (A.out.keep hb)
  have B := hide (B.out.keep hb)
  have E := hide (E.out.keep hb)
  have H : Hid (Below w.heap.size w w4) := H.out.trans (hb.mono H.out.size)
  clear hb
  cases ok with
  | false =>
    go_wp2_with fail
    refine (equalEntries_same v2 v3 R _ A.out B.out).mono ?_
    rintro e w5 ⟨rfl, hb⟩
    have H : Hid (Below w.heap.size w w5) := H.out.trans (hb.mono H.out.size)
    clear hb
    go_wp2_with fail
    go_ret
    exact ⟨rfl, H.out⟩
  | true =>
    have HRF : Hid (R = l.filter (keepE nm)) := by rw [← HR.out, dropR, HOK.out]; rfl
    obtain ⟨lw1, lw2, lw3⟩ := drop_law HOK.out
    rw [← HRF.out] at lw1 lw2 lw3
    have HM : Hid (∀ e ∈ R, e.n ≠ nm ∧ e.t ≠ nm) := by rw [HRF.out]; exact fun e he => keep_iff.1 (List.mem_filter.1 he).2
    have L1 := hide lw1
    have L2 := hide lw2
    clear lw1 lw2
    obtain ⟨a2, cap2, rfl, hl2, hc2, hd2⟩ := A.out
    go_wp2_with fail
    go_loopg [9] R.length (fun gk s9 wr => wr = w4 ∧ ∃ k : Nat, k + gk = R.length ∧ s9 = .int .i64 (k : Int))
    case atStart => exact ⟨rfl, 0, by omega, rfl⟩
    case round =>
      obtain ⟨rfl, k, hk, rfl⟩ := hrel
      by_cases hlt : k < R.length
      · obtain ⟨b, off, rfl, hbb, hcell⟩ := hd2.resolve_left (by rintro rfl; simp at hlt)
        obtain ⟨e0, e1, e2, -⟩ := hcell k hlt
        obtain ⟨m1, m2⟩ := HM.out _ (List.getElem_mem hlt)
        clear hcell hd2
        generalize R[k] = x at *
        have n1 : ¬ x.n.toList = nm.toList := fun h => m1 (text_ext h)
        have n2 : (x.n.toList == nm.toList) = false := by simpa using n1
        have n3 : ¬ x.t.toList = nm.toList := fun h => m2 (text_ext h)
        have n4 : (x.t.toList == nm.toList) = false := by simpa using n3
        go_wp2_with fail
        go_roundg (gk - 1)
        case measure => omega
        case rel => exact ⟨rfl, k + 1, by omega, by go_num⟩
      · clear hd2
        go_wp2_with fail
        refine (iDropEntry_any nm _ R _ A.out).mono ?_
        rintro e w5 ⟨v5, rfl, -, hb⟩
        rw [L2.out]
        have A := hide (A.out.keep hb)
        have H : Hid (Below w.heap.size w w5) := H.out.trans (hb.mono H.out.size)
        clear hb
        go_wp2_with fail
        refine (ivalidCatalog_any _ R _ A.out).mono ?_
        rintro e w6 ⟨rfl, hb⟩
        rw [L1.out]
        have H : Hid (Below w.heap.size w w6) := H.out.trans (hb.mono H.out.size)
        clear hb
        have lw4 : (R.length : Int) < (l.length : Int) := by omega
        have lw5 : decide ((R.length : Int) < (l.length : Int)) = true := decide_eq_true lw4
        go_wp2_with fail
        go_ret
        exact ⟨by first | rfl | simp, H.out⟩
end Go.Proofs.Yteikeljklfblmaa
