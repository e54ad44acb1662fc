/-
  drained, DrainSide, BuildOnline and CanBeUnique of the specification.
-/
import Derived.Test.YtppbmhlmbepneaaSRun
import Derived.Test.YtppbmhlmbepneaaIDrain
import Derived.Test.YtppbmhlmbepneaaIFin
set_option linter.all false
namespace Go.Proofs.Ytppbmhlmbepneaa
open Go.RowKit
theorem drnS_gone' {l : List Itm} {row key : Int} : drnS l ⟨false, true, row, key⟩ = delL l ⟨key, row⟩ := by
  unfold drnS
  simp only [if_true]
  rfl
theorem drnS_put' {l : List Itm} {row key : Int} : drnS l ⟨false, false, row, key⟩ = if hasI l ⟨key, row⟩ then l else putL l ⟨key, row⟩ := by
  unfold drnS
  simp only [Bool.false_eq_true, if_false]
  rfl
set_option maxHeartbeats 32000000 in
set_option maxRecDepth 100000 in
theorem drained_any (v u : Value) (l : List Itm) (ms : List RMove) (w : World) (h : Itms w v l) (hnil : NilOk v) (h' : Moves w u ms) (hl : l.length ≤ 300) (hml : ms.length ≤ 300) (hsc : ∀ m ∈ ms, m.scan = false) :
    Calls Try.prog 58 #[v, u] w (ItRet w (drnL l ms)) := by
  have HI := hide h
  have HNL := hide hnil
  have HSC := hide (fun k (hk : k < ms.length) => hsc _ (List.getElem_mem hk))
  obtain ⟨a, cap, rfl, -⟩ := h
  obtain ⟨ua, uc, rfl, hul, huc, hd⟩ := h'
  have HI2 := hide (HI.out.keep (below_box w (.cells #[] 29)))
  clear hnil hsc
  go_enter Try.func58, Try.ntmps58
  go_wp2_with (at_builtin; refine wpList_copyI rfl (.tmp 8) (.tmp 9) rfl w.heap.size w.heap.size rfl (own_lit_at rfl (Nat.le_refl _)) _ l rfl HI2.out HNL.out (by omega) (by simp) ?next)
  case next =>
    intro g2 cap2 w2 ho hg
    have H2 : Hid (Below w.heap.size w w2) := (below_box w _).grown hg (by simp) (fun q hq => by injection hq with hq; omega)
    have HO := hide ho
    clear ho hg HI2
    go_wp2_with fail
    go_loopg [5, 6] ms.length (fun gk sa sk wr => Below w.heap.size w wr ∧ ∃ k : Nat, k + gk = ms.length ∧ sk = .int .i64 (k : Int) ∧ OwnI w.heap.size wr sa (drnL l (ms.take k)))
    case atStart => exact ⟨H2.out, 0, by omega, rfl, HO.out⟩
    case round =>
      clear H2 HO
      obtain ⟨hbw, k, hk, rfl, hown⟩ := hrel
      have HW := hide hbw
      have HO := hide hown
      clear hown
      by_cases hlt : k < ms.length
      · obtain ⟨b, off, rfl, hbb, hcell⟩ := hd.resolve_left (by rintro rfl; simp at hlt)
        have hbl := Nat.lt_of_lt_of_le hbb hbw.size
        have E := hide ((hcell k hlt).keep hbw)
        have HS := hide (drnL_take (l := l) hlt)
        have hln := drnL_len l (ms.take k)
        rw [List.length_take] at hln
        have hsc := HSC.out k hlt
        obtain ⟨m, hm⟩ : ∃ m, ms[k] = m := ⟨_, rfl⟩
        rw [hm] at E HS hsc
        clear hcell hd hbw hm
        obtain ⟨D1, hD1⟩ : ∃ D1, drnL l (ms.take (k + 1)) = D1 := ⟨_, rfl⟩
        obtain ⟨D0, hD0⟩ : ∃ D0, drnL l (ms.take k) = D0 := ⟨_, rfl⟩
        have HD1 := hide hD1
        rw [hD0] at HS HO hln
        rw [hD1] at HS
        clear hD1 hD0
        have hlb : D0.length ≤ 600 := by omega
        clear hln
        obtain ⟨sc, gn, row, key⟩ := m
        simp only at hsc
        subst hsc
        obtain ⟨e0, e1, e2, e3⟩ := E.out
        simp only at e0 e1 e2 e3
        have hz := HW.out.size
        obtain ⟨WB, hWB⟩ : ∃ WB, WB = (wr.alloc (.cells #[.int .i64 key, .int .i64 row] 29)).drew := ⟨_, rfl⟩
        have BB2 : Hid (Below wr.heap.size wr WB) := by rw [hWB]; exact (below_box wr _).drew
        have HOB := hide (HO.out.keep BB2.out)
        have HWB : Hid (Below w.heap.size w WB) := HW.out.trans (BB2.out.mono hz)
        have HX : Hid (WB.heap[wr.heap.size]? = some (.cells #[.int .i64 key, .int .i64 row] 29 (0, 0))) := by rw [hWB]; exact blk_alloc wr _
        have HE1 : Hid (WB.cell? ⟨b, off + k * 4 + 1, none⟩ = some (.bool gn)) := (BB2.out.cell hbl).trans e1
        obtain ⟨ra, rc, rfl, -⟩ := own_slc HO.out
        clear HO BB2 HW
        go_wp2_with fail
        go_region
        rw [← hWB]
        have x0 : WB.cell? ⟨wr.heap.size, 0, none⟩ = some (.int .i64 key) := cell_block HX.out 0
        have x1 : WB.cell? ⟨wr.heap.size, 1, none⟩ = some (.int .i64 row) := cell_block HX.out 1
        have ee := HE1.out
        clear e0 e1 e2 e3 hWB
        cases gn with
        | true =>
          have HE : Hid (D1 = delL D0 ⟨key, row⟩) := HS.out.trans drnS_gone'
          have HC := hide (remove_any _ D0 ⟨key, row⟩ WB HOB.out.itms (by omega))
          go_wp2_with fail
          refine HC.out.mono ?_
          rintro e w3 ⟨v', rfl, ho, hb⟩
          have H3 : Hid (Below w.heap.size w w3) := HWB.out.trans (hb.mono HWB.out.size)
          rw [← HE.out] at ho
          have HO3 : Hid (OwnI w.heap.size w3 v' D1) := own_mono ho HWB.out.size
          clear hb ho HC ee x0 x1
          go_wp2_with fail
          go_roundg (gk - 1)
          case measure => omega
          case rel => exact ⟨H3.out, k + 1, by omega, by go_num, by rw [HD1.out]; exact HO3.out⟩
        | false =>
          have HC := hide (holds_any _ D0 ⟨key, row⟩ WB HOB.out.itms)
          have HPP := hide (fun z (hz : Itms z (.slice ra D0.length rc) D0) => put_any _ D0 ⟨key, row⟩ z hz (by omega))
          have HE := hide (HS.out.trans drnS_put')
          generalize hasI D0 ⟨key, row⟩ = fd at *
          cases fd with
          | true =>
            have HEE : Hid (D1 = D0) := by have := HE.out; unfold Hid; simpa using this
            go_wp2_with fail
            refine HC.out.mono ?_
            rintro e w3 ⟨rfl, hb⟩
            have H3 : Hid (Below w.heap.size w w3) := HWB.out.trans (hb.mono HWB.out.size)
            have HO3 := hide (HOB.out.keep hb)
            clear hb HC ee x0 x1
            go_wp2_with fail
            go_roundg (gk - 1)
            case measure => omega
            case rel => exact ⟨H3.out, k + 1, by omega, by go_num, by rw [HD1.out, HEE.out]; exact HO3.out⟩
          | false =>
            have HEE : Hid (D1 = putL D0 ⟨key, row⟩) := by have := HE.out; unfold Hid; simpa using this
            go_wp2_with fail
            refine HC.out.mono ?_
            rintro e w3 ⟨rfl, hb⟩
            have H3 : Hid (Below w.heap.size w w3) := HWB.out.trans (hb.mono HWB.out.size)
            have HO3 := hide (HOB.out.keep hb)
            have HP3 := hide (HPP.out w3 HO3.out.itms)
            have hX3 := blk_own hb HX.out
            have x0 : w3.cell? ⟨wr.heap.size, 0, none⟩ = some (.int .i64 key) := cell_block hX3 0
            have x1 : w3.cell? ⟨wr.heap.size, 1, none⟩ = some (.int .i64 row) := cell_block hX3 1
            clear hb HC ee hX3
            go_wp2_with fail
            refine HP3.out.mono ?_
            rintro e w4 ⟨v', rfl, ho, hb⟩
            have H4 : Hid (Below w.heap.size w w4) := H3.out.trans (hb.mono H3.out.size)
            rw [← HEE.out] at ho
            have HO4 : Hid (OwnI w.heap.size w4 v' D1) := own_mono ho H3.out.size
            clear hb ho HP3 x0 x1
            go_wp2_with fail
            go_roundg (gk - 1)
            case measure => omega
            case rel => exact ⟨H4.out, k + 1, by omega, by go_num, by rw [HD1.out]; exact HO4.out⟩
      · have hkl : k = ms.length := by omega
        subst hkl
        rw [List.take_length] at HO
        obtain ⟨ra, rc, rfl, -⟩ := own_slc HO.out
        clear hd hbw
        go_wp2_with fail
        go_ret
        exact ⟨_, rfl, HO.out, HW.out⟩
set_option maxHeartbeats 16000000 in
set_option maxRecDepth 100000 in
theorem sDrainSide_any (v u : Value) (l : List Itm) (ms : List RMove) (w : World) (h : Itms w v l) (hnil : NilOk v) (h' : Moves w u ms) :
    Calls Try.prog 28 #[v, u] w (ItsRet w (DrnOf l ms)) := by
  have HI := hide h
  have HM := hide h'
  have HNL := hide hnil
  obtain ⟨a, cap, rfl, hl, hcap, -⟩ := h
  obtain ⟨ua, uc, rfl, hul, huc, hd⟩ := h'
  have HV := hide (svalidItems_any _ l w HI.out)
  clear hnil
  go_enter Try.func28, Try.ntmps28
  go_wp2_with fail
  refine HV.out.mono ?_
  rintro e w1 ⟨q, rfl, hv, hb⟩
  have H1 := hide hb
  have HVV := hide hv
  clear hb hv HV
  cases q with
  | false =>
    have HN : Hid (¬ vSide l ms) := fun h => by have := HVV.out.2 h.1.1; cases this
    go_wp2_with fail
    go_ret
    exact ⟨_, [], rfl, ⟨fun h => absurd h HN.out, fun _ => rfl⟩, World.ownsRow_nil _ _ _ _, H1.out⟩
  | true =>
    have HY : Hid (ordI l ∧ l.length ≤ 30) := HVV.out.1 rfl
    clear HVV
    by_cases h32 : (32 : Int) < (ms.length : Int)
    · have d32 : decide ((32 : Int) < (ms.length : Int)) = true := decide_eq_true h32
      have HN : Hid (¬ vSide l ms) := fun h => by have := h.1.2; omega
      clear h32
      go_wp2_with fail
      go_ret
      exact ⟨_, [], rfl, ⟨fun h => absurd h HN.out, fun _ => rfl⟩, World.ownsRow_nil _ _ _ _, H1.out⟩
    have d32 : decide ((32 : Int) < (ms.length : Int)) = false := decide_eq_false h32
    have HL2 : Hid (ms.length ≤ 32) := by unfold Hid; omega
    clear h32
    go_wp2_with fail
    go_loopg [5] ms.length (fun gk sk wr => Below w.heap.size w wr ∧ ∃ k : Nat, k + gk = ms.length ∧ sk = .int .i64 (k : Int) ∧ ∀ j (h : j < ms.length), j < k → ms[j].scan = false ∧ vMove ms[j])
    case atStart => exact ⟨H1.out, 0, by omega, rfl, fun j _ hj => by omega⟩
    case round =>
      obtain ⟨hbw, k, hk, rfl, hP⟩ := hrel
      have HW := hide hbw
      have HP := hide hP
      clear hP
      by_cases hlt : k < ms.length
      · obtain ⟨b, off, rfl, hbb, hcell⟩ := hd.resolve_left (by rintro rfl; simp at hlt)
        have hbl := Nat.lt_of_lt_of_le hbb hbw.size
        have E := hide ((hcell k hlt).keep hbw)
        obtain ⟨m, hm⟩ : ∃ m, ms[k] = m := ⟨_, rfl⟩
        have HA : Hid (¬ (m.scan = false ∧ vMove m) → ¬ vSide l ms) := fun h h' => h (hm ▸ h'.2 _ (List.getElem_mem hlt))
        have HS : Hid (m.scan = false ∧ vMove m → ∀ j (h : j < ms.length), j < k + 1 → ms[j].scan = false ∧ vMove ms[j]) := fun h j hj hjk => by
          rcases Nat.lt_or_ge j k with q | q
          · exact HP.out j hj q
          · obtain rfl : j = k := by omega
            rw [hm]; exact h
        rw [hm] at E
        clear hcell hd hbw hm
        obtain ⟨sc, gn, row, key⟩ := m
        obtain ⟨e0, e1, e2, e3⟩ := E.out
        simp only at e0 e1 e2 e3
        cases sc with
        | true =>
          have HN := hide (HA.out (fun h => by cases h.1))
          go_wp2_with fail
          go_ret
          exact ⟨_, [], rfl, ⟨fun h => absurd h HN.out, fun _ => rfl⟩, World.ownsRow_nil _ _ _ _, HW.out⟩
        | false =>
          have HIR := hide (fun n l h z => inRange_any n l h z)
          by_cases hq1 : 0 ≤ row ∧ row ≤ 99
          · have dq1 : decide (0 ≤ row ∧ row ≤ 99) = true := decide_eq_true hq1
            by_cases hq2 : 0 ≤ key ∧ key ≤ 999999
            · have dq2 : decide (0 ≤ key ∧ key ≤ 999999) = true := decide_eq_true hq2
              have hvm : vMove ⟨false, gn, row, key⟩ := ⟨hq1, hq2⟩
              have HN := hide (HS.out ⟨by first | rfl | trivial, hvm⟩)
              clear hq1 hq2 hvm
              go_wp2_with fail
              refine (HIR.out _ _ _ _).mono ?_
              rintro e _ ⟨rfl, rfl⟩
              rw [dq1]
              go_wp2_with fail
              refine (HIR.out _ _ _ _).mono ?_
              rintro e _ ⟨rfl, rfl⟩
              rw [dq2]
              go_wp2_with fail
              go_roundg (gk - 1)
              case measure => omega
              case rel => exact ⟨HW.out, k + 1, by omega, by go_num, HN.out⟩
            · have dq2 : decide (0 ≤ key ∧ key ≤ 999999) = false := decide_eq_false hq2
              have HN := hide (HA.out (fun h => hq2 h.2.2))
              clear hq1 hq2
              go_wp2_with fail
              refine (HIR.out _ _ _ _).mono ?_
              rintro e _ ⟨rfl, rfl⟩
              rw [dq1]
              go_wp2_with fail
              refine (HIR.out _ _ _ _).mono ?_
              rintro e _ ⟨rfl, rfl⟩
              rw [dq2]
              go_wp2_with fail
              go_ret
              exact ⟨_, [], rfl, ⟨fun h => absurd h HN.out, fun _ => rfl⟩, World.ownsRow_nil _ _ _ _, HW.out⟩
          · have dq1 : decide (0 ≤ row ∧ row ≤ 99) = false := decide_eq_false hq1
            have HN := hide (HA.out (fun h => hq1 h.2.1))
            clear hq1
            go_wp2_with fail
            refine (HIR.out _ _ _ _).mono ?_
            rintro e _ ⟨rfl, rfl⟩
            rw [dq1]
            go_wp2_with fail
            go_ret
            exact ⟨_, [], rfl, ⟨fun h => absurd h HN.out, fun _ => rfl⟩, World.ownsRow_nil _ _ _ _, HW.out⟩
      · have hkl : k = ms.length := by omega
        subst hkl
        have HA : Hid (vSide l ms) := ⟨⟨HY.out, HL2.out⟩, fun m hm => by
          obtain ⟨j, hj, rfl⟩ := List.getElem_of_mem hm
          exact HP.out j hj hj⟩
        have HDR := hide (drained_any _ _ l ms wr (HI.out.keep HW.out) HNL.out (HM.out.keep HW.out) (by have := HY.out.2; omega) (by have := HL2.out; omega) (fun m hm => (HA.out.2 m hm).1))
        clear hd hbw
        go_wp2_with fail
        refine HDR.out.mono ?_
        rintro e w3 ⟨v3, rfl, ho, hb⟩
        have HO3 : Hid (OwnI w.heap.size w3 v3 (drnL l ms)) := own_mono ho HW.out.size
        have H3 : Hid (Below w.heap.size w w3) := HW.out.trans (hb.mono HW.out.size)
        clear ho hb HDR
        go_wp2_with fail
        go_ret
        exact ⟨v3, _, rfl, ⟨fun _ => rfl, fun h => absurd HA.out h⟩, HO3.out, H3.out⟩
set_option maxHeartbeats 16000000 in
set_option maxRecDepth 100000 in
theorem sBuildOnline_any (v u : Value) (l : List Itm) (ms : List RMove) (w : World) (h : Itms w v l) (hnil : NilOk v) (h' : Moves w u ms) :
    Calls Try.prog 31 #[v, u] w (ItsRet w (BldOf l ms)) := by
  have HV := hide (svalidMoves_any v u l ms w h h')
  have HI := hide h
  have HM := hide h'
  have HNL := hide hnil
  obtain ⟨a, cap, rfl, -⟩ := h
  obtain ⟨ua, uc, rfl, -⟩ := h'
  clear hnil
  go_enter Try.func31, Try.ntmps31
  go_wp2_with fail
  refine HV.out.mono ?_
  rintro e w1 ⟨q, rfl, hv, hb⟩
  have H1 := hide hb
  have HVV := hide hv
  have HI1 := hide (HI.out.keep hb)
  have HM1 := hide (HM.out.keep hb)
  clear hb hv HV HI HM
  cases q with
  | false =>
    have HN : Hid (¬ vMoves l ms) := fun h => by have := HVV.out.2 h; cases this
    go_wp2_with fail
    go_ret
    exact ⟨_, [], rfl, ⟨fun h => absurd h HN.out, fun _ => rfl⟩, World.ownsRow_nil _ _ _ _, H1.out⟩
  | true =>
    have HY : Hid (vMoves l ms) := HVV.out.1 rfl
    have HR := hide (srunBuild_any _ _ l ms w1 HI1.out HNL.out HM1.out HY.out)
    clear HVV
    go_wp2_with fail
    refine HR.out.mono ?_
    rintro e w2 ⟨vr, vi, vs, rfl, ⟨g, hrw⟩, hb⟩
    have H2 : Hid (Below w.heap.size w w2) := H1.out.trans (hb.mono H1.out.size)
    have HRW := hide (hrw.mono H1.out.size)
    have HIV := hide (HY.out.inv ms.length (Nat.le_refl _))
    have HROW := hide (bsAt_rows l ms ms.length (Nat.le_refl _))
    have hsd := (side_len l ms ms.length (Nat.le_refl _)).1
    have hm16 := HY.out.1.2
    obtain ⟨ra, rc, rfl, -⟩ := own_slc hrw.r
    obtain ⟨ia, ic, rfl, -⟩ := own_slc hrw.i
    obtain ⟨sa, sc, rfl, -⟩ := own_slc hrw.s
    generalize bsAt l ms ms.length = b0 at *
    have hw2 := H2.out.size
    have HX0 : Hid (BoxS w.heap.size w2.heap.size (w2.alloc (.cells #[.slice ra b0.rows.length rc, .slice ia (ordL b0.items).length ic, .slice sa b0.side.length sc, .int .i64 b0.pos] 61)) b0) := ⟨hw2, _, _, _, blk_alloc w2 _, HRW.out.rebox _⟩
    have H3 : Hid (Below w.heap.size w (w2.alloc (.cells #[.slice ra b0.rows.length rc, .slice ia (ordL b0.items).length ic, .slice sa b0.side.length sc, .int .i64 b0.pos] 61))) := H2.out.alloc hw2 _
    clear hb hrw HR HRW
    go_wp2_with fail
    go_loopg [] ((99 - b0.pos).toNat) (fun gk wr => Below w.heap.size w wr ∧ ∃ b' : BS, BoxS w.heap.size w2.heap.size wr b' ∧ InvB b' ∧ b'.rows = b0.rows ∧ b'.side = b0.side ∧ (99 - b'.pos).toNat = gk)
    case atStart => exact ⟨H3.out, b0, HX0.out, HIV.out, rfl, rfl, rfl⟩
    case round =>
      clear HX0 HIV H3
      obtain ⟨hbw, b', hbx, hv, hr, hs, hp⟩ := hrel
      have HW := hide hbw
      have HX := hide hbx
      have HV := hide hv
      have HRR := hide hr
      have HSS := hide hs
      have HP := hide hp
      have hgw := hbx.lt
      obtain ⟨-, vr, vi, vs, h1, h2⟩ := hbx
      obtain ⟨⟨c0, c1, c2, c3⟩, -⟩ := cells4 h1
      have HR2 := hide h2
      obtain ⟨ra, rc, rfl, -⟩ := own_slc h2.r
      obtain ⟨ia, ic, rfl, -⟩ := own_slc h2.i
      obtain ⟨sa, sc, rfl, -⟩ := own_slc h2.s
      generalize w2.heap.size = GG at *
      clear hbw hv hr hs hp h1 h2
      by_cases hq : b'.pos < 99
      · have dq : decide (b'.pos < 99) = true := decide_eq_true hq
        have HC := hide (sscan_any w.heap.size GG b' wr HX.out HV.out)
        have hup := scanB_up HV.out hq
        have hpp := HP.out
        clear hq
        go_wp2_with fail
        refine HC.out.mono ?_
        rintro e w3 ⟨rfl, hbx, hb⟩
        have H3 : Hid (Below w.heap.size w w3) := HW.out.trans hb
        have HX3 := hide hbx
        clear hb hbx HC
        go_wp2_with fail
        go_roundg ((99 - (scanB b').pos).toNat)
        case measure => omega
        case rel => exact ⟨H3.out, scanB b', HX3.out, HV.out.scan, (scanB_rows b').1.trans HRR.out, (scanB_rows b').2.trans HSS.out, rfl⟩
      · have dq : decide (b'.pos < 99) = false := decide_eq_false hq
        have hpos : b'.pos = 99 := by have := HV.out.pos; omega
        have HD := hide (HV.out.done hpos)
        have hitl := HV.out.itl
        have hol : (ordL b'.items).length ≤ 100 := by rw [ordL_len_eq HV.out.nodup]; exact hitl
        have hsl : b'.side.length ≤ 32 := by rw [HSS.out]; omega
        have HDR := hide (drained_any (.slice ia (ordL b'.items).length ic) (.slice sa b'.side.length sc) (ordL b'.items) b'.side wr HR2.out.i.itms (nilOk_own HR2.out.i) HR2.out.s.rows (by omega) (by omega) (fun m hm => (HV.out.sd m hm).2.1))
        have HFIN : Hid (drnL (ordL b'.items) b'.side = ordL (rowsAt l ms ms.length)) := by unfold Hid; rw [HD.out, HRR.out, HROW.out]
        rw [HFIN.out] at HDR
        clear hq hpos HD HRR HROW HSS hitl
        go_wp2_with fail
        refine HDR.out.mono ?_
        rintro e w3 ⟨v3, rfl, ho, hb⟩
        have HO3 : Hid (OwnI w.heap.size w3 v3 (ordL (rowsAt l ms ms.length))) := own_mono ho HW.out.size
        have H3 : Hid (Below w.heap.size w w3) := HW.out.trans (hb.mono HW.out.size)
        clear ho hb HDR
        go_wp2_with fail
        go_ret
        exact ⟨v3, _, rfl, ⟨fun _ => rfl, fun h => absurd HY.out h⟩, HO3.out, H3.out⟩
set_option maxHeartbeats 8000000 in
theorem sCanBeUnique_any (v u : Value) (l : List Itm) (ms : List RMove) (w : World) (h : Itms w v l) (hnil : NilOk v) (h' : Moves w u ms) :
    Calls Try.prog 34 #[v, u] w (BlRet w (CanOf l ms)) := by
  have HV := hide (svalidMoves_any v u l ms w h h')
  have HI := hide h
  have HM := hide h'
  have HNL := hide hnil
  obtain ⟨a, cap, rfl, -⟩ := h
  obtain ⟨ua, uc, rfl, -⟩ := h'
  clear hnil
  go_enter Try.func34, Try.ntmps34
  go_wp2_with fail
  refine HV.out.mono ?_
  rintro e w1 ⟨q, rfl, hv, hb⟩
  have H1 := hide hb
  have HVV := hide hv
  have HI1 := hide (HI.out.keep hb)
  have HM1 := hide (HM.out.keep hb)
  clear hb hv HV HI HM
  cases q with
  | false =>
    have HR : Hid (CanOf l ms false) := ⟨fun h => (by cases h), fun h => by have := HVV.out.2 h.1; cases this⟩
    go_wp2_with fail
    go_ret
    exact ⟨false, rfl, HR.out, H1.out⟩
  | true =>
    have HY : Hid (vMoves l ms) := HVV.out.1 rfl
    have HB := hide (sBuildOnline_any _ _ l ms w1 HI1.out HNL.out HM1.out)
    clear HVV
    go_wp2_with fail
    refine HB.out.mono ?_
    rintro e w2 ⟨v', r, rfl, hr, ho, hb⟩
    have H2 : Hid (Below w.heap.size w w2) := H1.out.trans (hb.mono H1.out.size)
    have HRR := hide (hr.1 HY.out)
    have HFD := hide (sdouble_any v' _ w2 ho.itms)
    clear hb ho HB hr
    go_wp2_with fail
    refine HFD.out.mono ?_
    rintro e w3 ⟨n, rfl, hd, hb⟩
    have H3 : Hid (Below w.heap.size w w3) := H2.out.trans (hb.mono H2.out.size)
    rw [HRR.out] at hd
    have HN := hide (dbl_neg hd (ok_ordL (HY.out.ok _ (Nat.le_refl _))))
    clear hb hd HFD
    by_cases hn : n < 0
    · have dn : decide (n < 0) = true := decide_eq_true hn
      have HR : Hid (CanOf l ms true) := ⟨fun _ => ⟨HY.out, HN.out.1 hn⟩, fun _ => rfl⟩
      clear hn
      go_wp2_with fail
      go_ret
      exact ⟨true, rfl, HR.out, H3.out⟩
    · have dn : decide (n < 0) = false := decide_eq_false hn
      have HR : Hid (CanOf l ms false) := ⟨fun h => (by cases h), fun h => absurd (HN.out.2 h.2) hn⟩
      clear hn
      go_wp2_with fail
      go_ret
      exact ⟨false, rfl, HR.out, H3.out⟩
end Go.Proofs.Ytppbmhlmbepneaa
