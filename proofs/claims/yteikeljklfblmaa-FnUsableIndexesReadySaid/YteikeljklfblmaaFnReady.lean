/-
  The walk of FnUsableIndexesReady.
-/
import Derived.Test.YteikeljklfblmaaUseLaw
set_option linter.all false
namespace Go.Proofs.Yteikeljklfblmaa
open Go.RowKit
set_option maxHeartbeats 4000000 in
set_option maxRecDepth 100000 in
theorem fnUsableIndexesReady_walk (v : Value) (w : World) (h : BytesAt w v) :
    Calls Try.prog 10 #[v] w fun e w' => e = .returned (.bool true) ∧ Below w.heap.size w w' := by
  have hB := hide h
  obtain ⟨a, len, cap0, rfl, hlc, hcap0, hr⟩ := h
  clear hr
  by_cases hlen : 1048576 < len
  · go_enter Try.func10, Try.ntmps10
    go_wp2_with fail
    go_ret
    exact ⟨rfl, Below.refl _ _⟩
  go_enter Try.func10, Try.ntmps10
  go_wp2_with fail
  refine (drawSetState_any _ _ hB.out).mono ?_
  rintro e w1 ⟨g0, cap, l, nm, st, rfl, hnz, hcp, D⟩
  have H := hide D.below
  have hl13 := D.len
  have SZ := hide (sz_big D.sz)
  have E := hide (OwnE.ents D.own (sz_big D.sz))
  clear D hB
  obtain ⟨ok, hok⟩ : ∃ ok, setOk l nm st = ok := ⟨_, rfl⟩
  obtain ⟨R, hR⟩ : ∃ R, setR l nm st = R := ⟨_, rfl⟩
  have RZ : Hid (∀ e ∈ R, e.n.size ≤ 9223372036854775807 ∧ e.t.size ≤ 9223372036854775807) := by rw [← hR]; exact setR_sizes SZ.out nm st
  have HOK := hide hok
  have HR := hide hR
  clear hok hR
  go_wp2_with fail
  refine (iSetState_any nm st _ l _ E.out).mono ?_
  rintro e w2 ⟨v2, rfl, ho, hb⟩
  rw [HOK.out]
  rw [HR.out] at ho
  have A := hide (ho.ents RZ.out)
  have E := hide (E.out.keep hb)
  have H : Hid (Below w.heap.size w w2) := H.out.trans (hb.mono H.out.size)
  clear ho hb
  go_wp2_with fail
  refine (sSetState_any nm st _ l _ E.out).mono ?_
  rintro e w3 ⟨v3, rfl, ho, hb⟩
  rw [HOK.out]
  rw [HR.out] at ho
  have A := hide (A.out.keep hb)
  have B := hide (ho.ents RZ.out)
  have E := hide (E.out.keep hb)
  have H : Hid (Below w.heap.size w w3) := H.out.trans (hb.mono H.out.size)
  clear ho hb
  go_wp2_with fail
  refine (equalEntries_same v2 v3 R _ A.out B.out).mono ?_
  rintro e w4 ⟨rfl, hb⟩
  have A := hide (A.out.keep hb)
  have B := hide (B.out.keep hb)
  have E := hide (E.out.keep hb)
  have H : Hid (Below w.heap.size w w4) := H.out.trans (hb.mono H.out.size)
  clear hb
  cases ok with
  | false =>
    go_wp2_with fail
    refine (equalEntries_same v2 v3 R _ A.out B.out).mono ?_
    rintro e w5 ⟨rfl, hb⟩
    have H : Hid (Below w.heap.size w w5) := H.out.trans (hb.mono H.out.size)
    clear hb
    go_wp2_with fail
    go_ret
    exact ⟨rfl, H.out⟩
  | true =>
    have RL := ready_law HOK.out
    rw [HR.out] at RL
    obtain ⟨tb, htb⟩ : ∃ tb, tbF nm R = tb := ⟨_, rfl⟩
    rw [htb] at RL
    have HTB := hide htb
    clear htb
    obtain ⟨TA, hTA⟩ : ∃ T, useR R tb false = T := ⟨_, rfl⟩
    obtain ⟨TB, hTB⟩ : ∃ T, useR R tb true = T := ⟨_, rfl⟩
    rw [hTA, hTB] at RL
    have K1 := hide RL.1
    have K2 := hide RL.2
    have HTA := hide hTA
    have HTB2 := hide hTB
    clear RL hTA hTB
    obtain ⟨a2, cap2, rfl, hl2, hc2, hd2⟩ := A.out
    go_wp2_with fail
    go_loopg [10, 11] R.length (fun gk s10 s11 wr => wr = w4 ∧ ∃ k : Nat, k + gk = R.length ∧ s11 = .int .i64 (k : Int) ∧ s10 = .string (tbF nm (R.take k)))
    case atStart => exact ⟨rfl, 0, by omega, rfl, rfl⟩
    case round =>
      obtain ⟨rfl, k, hk, rfl, rfl⟩ := hrel
      by_cases hlt : k < R.length
      · obtain ⟨b, off, rfl, hbb, hcell⟩ := hd2.resolve_left (by rintro rfl; simp at hlt)
        obtain ⟨e0, e1, e2, -⟩ := hcell k hlt
        have HI := hide (tbF_take hlt nm)
        clear hcell hd2
        generalize R[k] = x at *
        by_cases hq : x.n.toList = nm.toList
        · have HQ : Hid (eqS x.n nm = true) := by simp [Hid, eqS, hq]
          go_wp2_with fail
          go_roundg (gk - 1)
          case measure => omega
          case rel => exact ⟨rfl, k + 1, by omega, by go_num, by rw [HI.out, if_pos HQ.out]⟩
        · have HQ : Hid (eqS x.n nm = false) := by simp [Hid, eqS, hq]
          have q2 : (x.n.toList == nm.toList) = false := by simpa using hq
          go_wp2_with fail
          go_roundg (gk - 1)
          case measure => omega
          case rel => exact ⟨rfl, k + 1, by omega, by go_num, by rw [HI.out, HQ.out]; rfl⟩
      · have hkk : k = R.length := by omega
        subst hkk
        rw [List.take_length, HTB.out]
        clear hd2
        go_wp2_with fail
        refine (iUsable_any tb false _ R _ A.out).mono ?_
        rintro e w5 ⟨v5, rfl, ho, hb⟩
        rw [HTA.out] at ho
        have T5 := hide (OwnT.txts ho)
        have A := hide (A.out.keep hb)
        have H : Hid (Below w.heap.size w w5) := H.out.trans (hb.mono H.out.size)
        clear ho hb
        go_wp2_with fail
        refine (iUsable_any tb true _ R _ A.out).mono ?_
        rintro e w6 ⟨v6, rfl, ho, hb⟩
        rw [HTB2.out] at ho
        have T6 := hide (OwnT.txts ho)
        have T5 := hide (T5.out.keep hb)
        have H : Hid (Below w.heap.size w w6) := H.out.trans (hb.mono H.out.size)
        clear ho hb
        obtain ⟨a5, cap5, rfl, hl5, hc5, hd5⟩ := T5.out
        obtain ⟨a6, cap6, rfl, hl6, hc6, hd6⟩ := T6.out
        go_wp2_with fail
        go_loopg [12, 16] TA.length (fun gk sa sk wq => wq = w6 ∧ ∃ k : Nat, k + gk = TA.length ∧ sk = .int .i64 (k : Int) ∧ sa = .bool (anyF nm (TA.take k)))
        case atStart => exact ⟨rfl, 0, by omega, rfl, rfl⟩
        case round =>
          obtain ⟨rfl, k, hk, rfl, rfl⟩ := hrel
          by_cases hlt : k < TA.length
          · obtain ⟨b, off, rfl, hbb, hcell⟩ := hd5.resolve_left (by rintro rfl; simp at hlt)
            have e0 := hcell k hlt
            have HI := hide (anyF_take hlt nm)
            clear hcell hd5
            generalize TA[k] = x at *
            obtain ⟨bb, hbb'⟩ : ∃ bb, anyF nm (TA.take k) = bb := ⟨_, rfl⟩
            rw [hbb'] at HI
            rw [hbb']
            have HBB := hide hbb'
            clear hbb'
            by_cases hq : x.toList = nm.toList
            · have HQ : Hid (eqS x nm = true) := by simp [Hid, eqS, hq]
              cases bb with
              | true =>
                go_wp2_with fail
                go_roundg (gk - 1)
                case measure => omega
                case rel => exact ⟨rfl, k + 1, by omega, by go_num, by rw [HI.out]; rfl⟩
              | false =>
                go_wp2_with fail
                go_roundg (gk - 1)
                case measure => omega
                case rel => exact ⟨rfl, k + 1, by omega, by go_num, by rw [HI.out, HQ.out]; rfl⟩
            · have HQ : Hid (eqS x nm = false) := by simp [Hid, eqS, hq]
              have q2 : (x.toList == nm.toList) = false := by simpa using hq
              cases bb with
              | true =>
                go_wp2_with fail
                go_roundg (gk - 1)
                case measure => omega
                case rel => exact ⟨rfl, k + 1, by omega, by go_num, by rw [HI.out]; rfl⟩
              | false =>
                go_wp2_with fail
                go_roundg (gk - 1)
                case measure => omega
                case rel => exact ⟨rfl, k + 1, by omega, by go_num, by rw [HI.out, HQ.out]; rfl⟩
          · have hkk : k = TA.length := by omega
            subst hkk
            rw [List.take_length]
            clear hd5
            rw [K1.out]
            go_wp2_with fail
            go_loopg [13, 17] TB.length (fun gk sa sk wq => wq = wr ∧ ∃ k : Nat, k + gk = TB.length ∧ sk = .int .i64 (k : Int) ∧ sa = .bool (anyF nm (TB.take k)))
            case atStart => exact ⟨rfl, 0, by omega, rfl, rfl⟩
            case round =>
              obtain ⟨rfl, k, hk, rfl, rfl⟩ := hrel
              by_cases hlt : k < TB.length
              · obtain ⟨b, off, rfl, hbb, hcell⟩ := hd6.resolve_left (by rintro rfl; simp at hlt)
                have e0 := hcell k hlt
                have HI := hide (anyF_take hlt nm)
                clear hcell hd6
                generalize TB[k] = x at *
                obtain ⟨bb, hbb'⟩ : ∃ bb, anyF nm (TB.take k) = bb := ⟨_, rfl⟩
                rw [hbb'] at HI
                rw [hbb']
                have HBB := hide hbb'
                clear hbb'
                by_cases hq : x.toList = nm.toList
                · have HQ : Hid (eqS x nm = true) := by simp [Hid, eqS, hq]
                  cases bb with
                  | true =>
                    go_wp2_with fail
                    go_roundg (gk - 1)
                    case measure => omega
                    case rel => exact ⟨rfl, k + 1, by omega, by go_num, by rw [HI.out]; rfl⟩
                  | false =>
                    go_wp2_with fail
                    go_roundg (gk - 1)
                    case measure => omega
                    case rel => exact ⟨rfl, k + 1, by omega, by go_num, by rw [HI.out, HQ.out]; rfl⟩
                · have HQ : Hid (eqS x nm = false) := by simp [Hid, eqS, hq]
                  have q2 : (x.toList == nm.toList) = false := by simpa using hq
                  cases bb with
                  | true =>
                    go_wp2_with fail
                    go_roundg (gk - 1)
                    case measure => omega
                    case rel => exact ⟨rfl, k + 1, by omega, by go_num, by rw [HI.out]; rfl⟩
                  | false =>
                    go_wp2_with fail
                    go_roundg (gk - 1)
                    case measure => omega
                    case rel => exact ⟨rfl, k + 1, by omega, by go_num, by rw [HI.out, HQ.out]; rfl⟩
              · have hkk : k = TB.length := by omega
                subst hkk
                rw [List.take_length]
                clear hd6
                rw [K2.out]
                go_wp2_with fail
                go_ret
                exact ⟨by first | rfl | simp, H.out⟩
end Go.Proofs.Yteikeljklfblmaa
