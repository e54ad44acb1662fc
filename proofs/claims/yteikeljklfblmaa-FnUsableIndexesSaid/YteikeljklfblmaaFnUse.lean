/-
  The walk of FnUsableIndexes.
-/
import Derived.Test.YteikeljklfblmaaUseLaw
set_option linter.all false
namespace Go.Proofs.Yteikeljklfblmaa
open Go.RowKit
set_option maxHeartbeats 4000000 in
set_option maxRecDepth 100000 in
theorem fnUsableIndexes_walk (v : Value) (w : World) (h : BytesAt w v) :
    Calls Try.prog 7 #[v] w fun e w' => e = .returned (.bool true) ∧ Below w.heap.size w w' := by
  have hB := hide h
  obtain ⟨a, len, cap0, rfl, hlc, hcap0, hr⟩ := h
  clear hr
  by_cases hlen : 1048576 < len
  · go_enter Try.func7, Try.ntmps7
    go_wp2_with fail
    go_ret
    exact ⟨rfl, Below.refl _ _⟩
  go_enter Try.func7, Try.ntmps7
  go_wp2_with fail
  refine (drawUsableIndexes_any _ _ hB.out).mono ?_
  rintro e w1 ⟨g0, cap, l, nm, b, rfl, hnz, hcp, D⟩
  have H := hide D.below
  have hl13 := D.len
  have SZ := hide (sz_big D.sz)
  have E := hide (OwnE.ents D.own (sz_big D.sz))
  clear D hB
  go_wp2_with fail
  refine (iUsable_any nm b _ l _ E.out).mono ?_
  rintro e w2 ⟨v2, rfl, ho, hb⟩
  have Tv2 : Hid (Txts w2 v2 (useR l nm b)) := OwnT.txts ho
  have E := hide (E.out.keep hb)
  have H : Hid (Below w.heap.size w w2) := H.out.trans (hb.mono H.out.size)
  clear ho hb
  go_wp2_with fail
  refine (sUsable_any nm b _ l _ E.out).mono ?_
  rintro e w3 ⟨v3, rfl, ho, hb⟩
  have Tv3 : Hid (Txts w3 v3 (useR l nm b)) := OwnT.txts ho
  have Tv2 := hide (Tv2.out.keep hb)
  have E := hide (E.out.keep hb)
  have H : Hid (Below w.heap.size w w3) := H.out.trans (hb.mono H.out.size)
  clear ho hb
  go_wp2_with fail
  refine (equalTexts_same v2 v3 _ _ Tv2.out Tv3.out).mono ?_
  rintro e w4 ⟨rfl, hb⟩
  have E := hide (E.out.keep hb)
  have H : Hid (Below w.heap.size w w4) := H.out.trans (hb.mono H.out.size)
  clear hb Tv2 Tv3
  go_wp2_with fail
  refine (iUsable_any nm true _ l _ E.out).mono ?_
  rintro e w5 ⟨v5, rfl, ho, hb⟩
  have Tv5 : Hid (Txts w5 v5 (useR l nm true)) := OwnT.txts ho
  have E := hide (E.out.keep hb)
  have H : Hid (Below w.heap.size w w5) := H.out.trans (hb.mono H.out.size)
  clear ho hb
  go_wp2_with fail
  refine (iUsable_any nm false _ l _ E.out).mono ?_
  rintro e w6 ⟨v6, rfl, ho, hb⟩
  have Tv6 : Hid (Txts w6 v6 (useR l nm false)) := OwnT.txts ho
  have Tv5 := hide (Tv5.out.keep hb)
  have E := hide (E.out.keep hb)
  have H : Hid (Below w.heap.size w w6) := H.out.trans (hb.mono H.out.size)
  clear ho hb
  have SB := hide (use_sub l nm)
  obtain ⟨all, hall⟩ : ∃ all, useR l nm true = all := ⟨_, rfl⟩
  obtain ⟨few, hfew⟩ : ∃ few, useR l nm false = few := ⟨_, rfl⟩
  rw [hall] at SB Tv5
  rw [hfew] at SB Tv6
  clear hall hfew
  obtain ⟨a1, cap1, rfl, hl1, hc1, hd1⟩ := Tv5.out
  obtain ⟨a2, cap2, rfl, hl2, hc2, hd2⟩ := Tv6.out
  go_wp2_with fail
  go_loopg [9, 10] all.length (fun gk s9 s10 wr => Below w6.heap.size w6 wr ∧ ∃ k n : Nat, k + gk = all.length ∧ n ≤ few.length ∧ s10 = .int .i64 (k : Int) ∧ s9 = .int .i64 (n : Int) ∧ (few.drop n).Sublist (all.drop k))
  case atStart => exact ⟨Below.refl _ _, 0, 0, by omega, by omega, rfl, rfl, SB.out⟩
  case round =>
    obtain ⟨hbw, k, n, hk, hn, rfl, rfl, hsub⟩ := hrel
    have HW := hide hbw
    have HS := hide hsub
    clear hsub
    by_cases hlt : k < all.length
    · have d1 : decide ((k : Int) < (all.length : Int)) = true := decide_eq_true (by omega)
      by_cases hlt2 : n < few.length
      · have d2 : decide ((n : Int) < (few.length : Int)) = true := decide_eq_true (by omega)
        obtain ⟨b, off, rfl, hbb, hcell⟩ := hd1.resolve_left (by rintro rfl; simp at hlt)
        obtain ⟨b', off', rfl, hbb', hcell'⟩ := hd2.resolve_left (by rintro rfl; simp at hlt2)
        have e0 := (hbw.cell (p := ⟨b, off + k, none⟩) hbb).trans (hcell k hlt)
        have f0 := (hbw.cell (p := ⟨b', off' + n, none⟩) hbb').trans (hcell' n hlt2)
        have HH := hide (fun he => sub_hit hlt2 hlt HS.out he)
        have HM := hide (fun he => sub_miss hlt2 hlt HS.out he)
        clear hcell hd1 hcell' hd2 hbw HS
        generalize all[k] = x at *
        generalize few[n] = y at *
        by_cases hq : x.toList = y.toList
        · have hxy := text_ext hq
          subst hxy
          go_wp2_with fail
          go_quiet (fail)
          go_wp2_with fail
          go_roundg (gk - 1)
          case measure => omega
          case rel => exact ⟨below_drewN HW.out _, k + 1, n + 1, by omega, by omega, by go_num, by go_num, HH.out (by first | exact rfl | exact trivial)⟩
        · have q2 : (x.toList == y.toList) = false := by simpa using hq
          go_wp2_with fail
          go_quiet (fail)
          go_wp2_with fail
          go_roundg (gk - 1)
          case measure => omega
          case rel => exact ⟨below_drewN HW.out _, k + 1, n, by omega, by omega, by go_num, rfl, HM.out (fun h => hq (by rw [h]))⟩
      · have hnn : n = few.length := by omega
        have d2 : decide ((n : Int) < (few.length : Int)) = false := decide_eq_false (by omega)
        have H' : Hid (Below w.heap.size w wr) := H.out.trans (hbw.mono H.out.size)
        clear hd1 hd2 hbw
        go_wp2_with fail
        go_ret
        exact ⟨by simp [hnn], H'.out⟩
    · have hkk : k = all.length := by omega
      subst hkk
      have hnn : n = few.length := sub_end hn HS.out
      have d1 : decide ((all.length : Int) < (all.length : Int)) = false := decide_eq_false (by omega)
      have H' : Hid (Below w.heap.size w wr) := H.out.trans (hbw.mono H.out.size)
      clear hd1 hd2 hbw
      go_wp2_with fail
      go_ret
      exact ⟨by simp [hnn], H'.out⟩
end Go.Proofs.Yteikeljklfblmaa
