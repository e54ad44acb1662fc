/-
  newBuild and runBuild of the program; RowsAfter, SideOf of the program.
-/
import Derived.Test.YtppbmhlmbepneaaIMove
import Derived.Test.YtppbmhlmbepneaaVRows
import Derived.Test.YtppbmhlmbepneaaOnl2
set_option linter.all false
namespace Go.Proofs.Ytppbmhlmbepneaa
open Go.RowKit
def okMs (ms : List RMove) (k : Nat) : Prop := ∀ j (h : j < ms.length), j < k → okM ms[j]
def okAll (ms : List RMove) : Prop := ∀ j (h : j < ms.length), okM ms[j]
theorem okMs_s {ms : List RMove} {k : Nat} {m : RMove} (h : okMs ms k) (hk : k < ms.length) (hm : ms[k] = m) (h1 : okM m) : okMs ms (k + 1) := fun j hj hjk => by
  rcases Nat.lt_or_ge j k with q | q
  · exact h j hj q
  · obtain rfl : j = k := by omega
    rw [hm]; exact h1
/-- what newBuild and runBuild hand back -/
def BoxRet (w : World) (p : Prop) (b : BS) (e : Ending) (w' : World) : Prop := Below w.heap.size w w' ∧
  ((p ∧ ∃ g, e = .returned (.tuple #[.pointer (some ⟨g, 0, none⟩), .bool true]) ∧ BoxI w.heap.size g w' b) ∨ (¬ p ∧ e = .returned (.tuple #[.pointer none, .bool false])))
set_option maxHeartbeats 16000000 in
set_option maxRecDepth 100000 in
theorem newBuild_any (v u : Value) (l : List Itm) (ms : List RMove) (w : World) (h : Itms w v l) (h' : Moves w u ms) :
    Calls Try.prog 63 #[v, u] w (BoxRet w ((vRows l ∧ ms.length ≤ 16) ∧ okAll ms) ⟨l, -1, [], []⟩) := by
  have HV := hide (ivalidRows_any v l w h)
  have HI := hide h
  obtain ⟨a, cap, rfl, -⟩ := h
  obtain ⟨ua, uc, rfl, hul, huc, hd⟩ := h'
  go_enter Try.func63, Try.ntmps63
  go_wp2_with fail
  refine HV.out.mono ?_
  rintro e w1 ⟨q, rfl, hv, hb⟩
  have H1 := hide hb
  have HVV := hide hv
  clear hb hv HV
  cases q with
  | false =>
    have HN : Hid (¬ ((vRows l ∧ ms.length ≤ 16) ∧ okAll ms)) := fun h => by have := HVV.out.2 h.1.1; cases this
    go_wp2_with fail
    go_ret2
    exact ⟨H1.out, .inr ⟨HN.out, rfl⟩⟩
  | true =>
    have HY : Hid (vRows l) := HVV.out.1 rfl
    clear HVV
    by_cases h16 : (16 : Int) < (ms.length : Int)
    · have d16 : decide ((16 : Int) < (ms.length : Int)) = true := decide_eq_true h16
      have HN : Hid (¬ ((vRows l ∧ ms.length ≤ 16) ∧ okAll ms)) := fun h => by have := h.1.2; omega
      clear h16
      go_wp2_with fail
      go_ret2
      exact ⟨H1.out, .inr ⟨HN.out, rfl⟩⟩
    have d16 : decide ((16 : Int) < (ms.length : Int)) = false := decide_eq_false h16
    have HL : Hid (ms.length ≤ 16) := by unfold Hid; omega
    clear h16
    go_wp2_with fail
    go_loopg [18] ms.length (fun gk sk wr => Below w.heap.size w wr ∧ ∃ k : Nat, k + gk = ms.length ∧ sk = .int .i64 (k : Int) ∧ okMs ms k)
    case atStart => exact ⟨H1.out, 0, by omega, rfl, fun j _ hj => by omega⟩
    case round =>
      obtain ⟨hbw, k, hk, rfl, hP⟩ := hrel
      have HW := hide hbw
      have HP := hide hP
      clear hP
      by_cases hlt : k < ms.length
      · obtain ⟨b, off, rfl, hbb, hcell⟩ := hd.resolve_left (by rintro rfl; simp at hlt)
        have hbl := Nat.lt_of_lt_of_le hbb hbw.size
        have E := hide ((hcell k hlt).keep hbw)
        obtain ⟨m, hm⟩ : ∃ m, ms[k] = m := ⟨_, rfl⟩
        have HM := hide hm
        have HA : Hid (¬ okM m → ¬ ((vRows l ∧ ms.length ≤ 16) ∧ okAll ms)) := fun h h' => h (hm ▸ h'.2 k hlt)
        have HS : Hid (okM m → okMs ms (k + 1)) := fun h => okMs_s HP.out hlt hm h
        rw [hm] at E
        clear hcell hd hbw hm
        obtain ⟨sc, gn, row, key⟩ := m
        obtain ⟨e0, e1, e2, e3⟩ := E.out
        simp only at e0 e1 e2 e3
        have HWB : Hid (Below w.heap.size w (wr.alloc (.cells #[.bool sc, .bool gn, .int .i64 row, .int .i64 key] 42))) := HW.out.alloc HW.out.size _
        cases sc with
        | true =>
          go_wp2_with fail
          go_roundg (gk - 1)
          case measure => omega
          case rel => exact ⟨HWB.out, k + 1, by omega, by go_num, HS.out (fun h => by cases h)⟩
        | false =>
          have HC := hide (fun z => mvalid_any ⟨false, gn, row, key⟩ z)
          cases hok : vMoveB ⟨false, gn, row, key⟩ with
          | false =>
            have HOK := hide hok
            clear hok
            go_wp2_with fail
            refine (HC.out _).mono ?_
            rintro e w2 ⟨rfl, hb⟩
            have H2 : Hid (Below w.heap.size w w2) := HWB.out.trans (hb.mono HWB.out.size)
            have HN := hide (HA.out (fun h => by have := (vMoveB_iff _).2 (h rfl); rw [HOK.out] at this; cases this))
            rw [HOK.out]
            clear hb HC
            go_wp2_with fail
            go_ret2
            exact ⟨H2.out, .inr ⟨HN.out, rfl⟩⟩
          | true =>
            have HOK := hide hok
            clear hok
            go_wp2_with fail
            refine (HC.out _).mono ?_
            rintro e w2 ⟨rfl, hb⟩
            have H2 : Hid (Below w.heap.size w w2) := HWB.out.trans (hb.mono HWB.out.size)
            have HN := hide (HS.out (fun _ => (vMoveB_iff _).1 HOK.out))
            rw [HOK.out]
            clear hb HC
            go_wp2_with fail
            go_roundg (gk - 1)
            case measure => omega
            case rel => exact ⟨H2.out, k + 1, by omega, by go_num, HN.out⟩
      · have hkl : k = ms.length := by omega
        subst hkl
        have HA : Hid ((vRows l ∧ ms.length ≤ 16) ∧ okAll ms) := ⟨⟨HY.out, HL.out⟩, fun j hj => HP.out j hj hj⟩
        have HCL := hide (cloneI_any _ l wr (HI.out.keep HW.out) (by have := HY.out.1; omega))
        clear hd hbw
        go_wp2_with fail
        refine HCL.out.mono ?_
        rintro e w2 ⟨v', rfl, ho, hb⟩
        have H2 : Hid (Below w.heap.size w w2) := HW.out.trans (hb.mono HW.out.size)
        have HO : Hid (OwnI w.heap.size w2 v' l) := own_mono ho HW.out.size
        obtain ⟨va, vc, rfl, -⟩ := own_slc ho
        clear hb ho HCL
        go_wp2_with fail
        go_ret2
        have hr : w2.heap.size < (w2.alloc (.cells #[.slice va l.length vc, .int .i64 (-1), .slice none 0 0, .slice none 0 0] 58)).heap.size := by simp
        refine ⟨H2.out.alloc H2.out.size _, .inl ⟨HA.out, w2.heap.size, rfl, H2.out.size, _, _, _, blk_alloc w2 _, ?_⟩⟩
        exact ⟨HO.out.alloc _, World.ownsRow_nil _ _ _ _, World.ownsRow_nil _ _ _ _, fun e => by have := (World.ownsRow.lt HO.out _ e).2; omega, fun e => by simp [Value.ownBlock] at e, fun e => by simp [Value.ownBlock] at e, fun k _ e => by simp [Value.ownBlock] at e, fun k _ e => by simp [Value.ownBlock] at e, fun k _ e => by simp [Value.ownBlock] at e⟩
set_option maxHeartbeats 16000000 in
set_option maxRecDepth 100000 in
theorem runBuild_any (v u : Value) (l : List Itm) (ms : List RMove) (w : World) (h : Itms w v l) (h' : Moves w u ms) :
    Calls Try.prog 49 #[v, u] w (BoxRet w (vMoves l ms) (bsAt l ms ms.length)) := by
  have HV := hide (newBuild_any v u l ms w h h')
  obtain ⟨a, cap, rfl, -⟩ := h
  obtain ⟨ua, uc, rfl, hul, huc, hd⟩ := h'
  go_enter Try.func49, Try.ntmps49
  go_wp2_with fail
  refine HV.out.mono ?_
  rintro e w1 ⟨hb, ⟨hp, g, rfl, hbx⟩ | ⟨hp, rfl⟩⟩
  · have H1 := hide hb
    have HX1 := hide hbx
    have HP := hide hp
    clear hb hbx hp HV
    go_wp2_with fail
    go_loopg [20] ms.length (fun gk sk wr => Below w.heap.size w wr ∧ ∃ k : Nat, k + gk = ms.length ∧ sk = .int .i64 (k : Int) ∧ BoxI w.heap.size g wr (bsAt l ms k) ∧ ∀ j, j ≤ k → (rowsAt l ms j).length ≤ 30)
    case atStart => exact ⟨H1.out, 0, by omega, rfl, HX1.out, fun j hj => (Nat.le_zero.1 hj) ▸ HP.out.1.1.1⟩
    case round =>
      obtain ⟨hbw, k, hk, rfl, hbx, hln⟩ := hrel
      have HW := hide hbw
      have HX := hide hbx
      have HLN := hide hln
      clear hln hbx
      by_cases hlt : k < ms.length
      · obtain ⟨b, off, rfl, hbb, hcell⟩ := hd.resolve_left (by rintro rfl; simp at hlt)
        have hbl := Nat.lt_of_lt_of_le hbb hbw.size
        have E := hide ((hcell k hlt).keep hbw)
        have HI := hide (InvB.at (ms := ms) HP.out.1.1 (fun j hj => HP.out.2 j hj) k (by omega))
        have HR1 := hide (bsAt_rows l ms (k + 1) hlt)
        have HR0 := hide (bsAt_rows l ms k (by omega))
        have HS := hide (bsAt_s (l := l) hlt)
        have hsd := (side_len l ms k (by omega)).1
        have hpl := HP.out.1.2
        obtain ⟨m, hm⟩ : ∃ m, ms[k] = m := ⟨_, rfl⟩
        have HM : Hid (okM m) := hm ▸ HP.out.2 k hlt
        rw [hm] at E HS
        clear hcell hd hbw hm
        obtain ⟨B1, hB1⟩ : ∃ B1, bsAt l ms (k + 1) = B1 := ⟨_, rfl⟩
        obtain ⟨B0, hB0⟩ : ∃ B0, bsAt l ms k = B0 := ⟨_, rfl⟩
        have HB1 := hide hB1
        rw [hB0] at HI HR0 HS HX hsd
        rw [hB1] at HR1 HS
        clear hB1 hB0
        have hrl0 : B0.rows.length ≤ 30 := by rw [HR0.out]; exact HLN.out k (Nat.le_refl _)
        have hil := HI.out.itl
        have HALL : Hid ((rowsAt l ms (k + 1)).length ≤ 30 → ∀ j, j ≤ k + 1 → (rowsAt l ms j).length ≤ 30) := fun h j hj => by
          rcases Nat.lt_or_ge j (k + 1) with q | q
          · exact HLN.out j (by omega)
          · obtain rfl : j = k + 1 := by omega
            exact h
        have HBAD : Hid (¬ (rowsAt l ms (k + 1)).length ≤ 30 → ¬ vMoves l ms) := fun h h' => h (rows_len h' (k + 1) hlt)
        rw [← HR1.out] at HALL HBAD
        obtain ⟨sc, gn, row, key⟩ := m
        obtain ⟨e0, e1, e2, e3⟩ := E.out
        simp only at e0 e1 e2 e3
        have HWB : Hid (Below w.heap.size w (wr.alloc (.cells #[.bool sc, .bool gn, .int .i64 row, .int .i64 key] 42))) := HW.out.alloc HW.out.size _
        have HXB := hide (HX.out.keep (below_box wr (.cells #[.bool sc, .bool gn, .int .i64 row, .int .i64 key] 42)))
        clear HX HLN HR0
        cases sc with
        | true =>
          have HC := hide (imove_scan w.heap.size g B0 ⟨true, gn, row, key⟩ _ HXB.out HI.out rfl (by omega) (by omega))
          have HE : Hid (B1 = scanB B0) := HS.out
          clear HS HXB
          go_wp2_with fail
          refine HC.out.mono ?_
          rintro e w2 ⟨rfl, hbx, hb⟩
          have H2 : Hid (Below w.heap.size w w2) := HWB.out.trans hb
          rw [← HE.out] at hbx
          have HX2 := hide hbx
          clear hb hbx HC
          have HL1 : Hid (B1.rows.length ≤ 30) := by unfold Hid; rw [HE.out, (scanB_rows B0).1]; exact hrl0
          go_wp2_with fail
          go_roundg (gk - 1)
          case measure => omega
          case rel => exact ⟨H2.out, k + 1, by omega, by go_num, by rw [HB1.out]; exact HX2.out, HALL.out HL1.out⟩
        | false =>
          have hrw := (HM.out rfl).1
          simp only at hrw
          have HC := hide (imove_change w.heap.size g B0 gn row key _ HXB.out HI.out hrw.1 hrw.2 hrl0 (by omega))
          have HE : Hid (changeB B0 ⟨false, gn, row, key⟩ = B1) := HS.out.symm
          rw [HE.out] at HC
          clear HS HXB hrw
          by_cases hq : B1.rows.length ≤ 30
          · have dq : decide (B1.rows.length ≤ 30) = true := decide_eq_true hq
            rw [dq] at HC
            have HQ := hide hq
            clear hq dq
            go_wp2_with fail
            refine HC.out.mono ?_
            rintro e w2 ⟨rfl, hbx, hb⟩
            have H2 : Hid (Below w.heap.size w w2) := HWB.out.trans hb
            have HX2 := hide hbx
            clear hb hbx HC
            go_wp2_with fail
            go_roundg (gk - 1)
            case measure => omega
            case rel => exact ⟨H2.out, k + 1, by omega, by go_num, by rw [HB1.out]; exact HX2.out, HALL.out HQ.out⟩
          · have dq : decide (B1.rows.length ≤ 30) = false := decide_eq_false hq
            rw [dq] at HC
            have HQ := hide hq
            clear hq dq
            go_wp2_with fail
            refine HC.out.mono ?_
            rintro e w2 ⟨rfl, hbx, hb⟩
            have H2 : Hid (Below w.heap.size w w2) := HWB.out.trans hb
            clear hb hbx HC
            go_wp2_with fail
            go_ret2
            exact ⟨H2.out, .inr ⟨HBAD.out HQ.out, rfl⟩⟩
      · have hkl : k = ms.length := by omega
        subst hkl
        have HY : Hid (vMoves l ms) := vMoves_of HP.out.1.1 HP.out.1.2 (fun j hj => ⟨HP.out.2 j hj, HLN.out (j + 1) hj⟩)
        clear hd hbw
        go_wp2_with fail
        go_ret2
        exact ⟨HW.out, .inl ⟨HY.out, g, rfl, HX.out⟩⟩
  · have H1 := hide hb
    have HN : Hid (¬ vMoves l ms) := fun h => hp ⟨h.1, fun j hj => (h.2 j hj).1⟩
    clear hb hp HV
    go_wp2_with fail
    go_ret2
    exact ⟨H1.out, .inr ⟨HN.out, rfl⟩⟩
/-- what a function that returns new items hands back -/
def ItsRet (w : World) (p : List Itm → Prop) (e : Ending) (w' : World) : Prop := ∃ v' r, e = .returned v' ∧ p r ∧ OwnI w.heap.size w' v' r ∧ Below w.heap.size w w'
def MvsRet (w : World) (p : List RMove → Prop) (e : Ending) (w' : World) : Prop := ∃ v' r, e = .returned v' ∧ p r ∧ OwnM w.heap.size w' v' r ∧ Below w.heap.size w w'
set_option maxHeartbeats 8000000 in
theorem iRowsAfter_any (v u : Value) (l : List Itm) (ms : List RMove) (w : World) (h : Itms w v l) (h' : Moves w u ms) :
    Calls Try.prog 20 #[v, u] w (ItsRet w (AftOf l ms)) := by
  have HV := hide (runBuild_any v u l ms w h h')
  obtain ⟨a, cap, rfl, -⟩ := h
  obtain ⟨ua, uc, rfl, -⟩ := h'
  go_enter Try.func20, Try.ntmps20
  go_wp2_with fail
  refine HV.out.mono ?_
  rintro e w1 ⟨hb, ⟨hp, g, rfl, hbx⟩ | ⟨hp, rfl⟩⟩
  · have H1 := hide hb
    have hgw := hbx.lt
    obtain ⟨-, vr, vi, vs, h1, h2⟩ := hbx
    obtain ⟨⟨c0, c1, c2, c3⟩, -⟩ := cells4 h1
    have HP := hide hp
    have HE := hide (bsAt_rows l ms ms.length (Nat.le_refl _))
    have hle := rows_len hp ms.length (Nat.le_refl _)
    have HCL := hide (cloneI_any vr _ w1 h2.r.itms (by rw [HE.out]; omega))
    obtain ⟨ra, rc, rfl, -⟩ := own_slc h2.r
    clear hb h1 h2 hp HV hle
    go_wp2_with fail
    refine HCL.out.mono ?_
    rintro e w2 ⟨v', rfl, ho, hb⟩
    have H2 : Hid (Below w.heap.size w w2) := H1.out.trans (hb.mono H1.out.size)
    have HO : Hid (OwnI w.heap.size w2 v' (bsAt l ms ms.length).rows) := own_mono ho H1.out.size
    clear hb ho HCL
    go_wp2_with fail
    go_ret
    exact ⟨v', _, rfl, ⟨fun _ => HE.out, fun h => absurd HP.out h⟩, HO.out, H2.out⟩
  · have H1 := hide hb
    have HN := hide hp
    clear hb hp HV
    go_wp2_with fail
    go_ret
    exact ⟨_, [], rfl, ⟨fun h => absurd h HN.out, fun _ => rfl⟩, World.ownsRow_nil _ _ _ _, H1.out⟩
set_option maxHeartbeats 8000000 in
theorem iSideOf_any (v u : Value) (l : List Itm) (ms : List RMove) (w : World) (h : Itms w v l) (h' : Moves w u ms) :
    Calls Try.prog 23 #[v, u] w (MvsRet w (SidOf l ms)) := by
  have HV := hide (runBuild_any v u l ms w h h')
  obtain ⟨a, cap, rfl, -⟩ := h
  obtain ⟨ua, uc, rfl, -⟩ := h'
  go_enter Try.func23, Try.ntmps23
  go_wp2_with fail
  refine HV.out.mono ?_
  rintro e w1 ⟨hb, ⟨hp, g, rfl, hbx⟩ | ⟨hp, rfl⟩⟩
  · have H1 := hide hb
    have hgw := hbx.lt
    obtain ⟨-, vr, vi, vs, h1, h2⟩ := hbx
    obtain ⟨⟨c0, c1, c2, c3⟩, -⟩ := cells4 h1
    have HP := hide hp
    have HS := hide h2.s
    obtain ⟨sa, sc, rfl, -⟩ := own_slc h2.s
    clear hb h1 h2 hp HV
    go_wp2_with fail
    go_ret
    exact ⟨_, _, rfl, ⟨fun _ => rfl, fun h => absurd HP.out h⟩, HS.out, H1.out⟩
  · have H1 := hide hb
    have HN := hide hp
    clear hb hp HV
    go_wp2_with fail
    go_ret
    exact ⟨_, [], rfl, ⟨fun h => absurd h HN.out, fun _ => rfl⟩, World.ownsRow_nil _ _ _ _, H1.out⟩
end Go.Proofs.Ytppbmhlmbepneaa
