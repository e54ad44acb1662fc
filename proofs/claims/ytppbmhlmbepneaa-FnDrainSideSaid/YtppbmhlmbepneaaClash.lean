/-
  FirstClash, of the program and of the specification.
-/
import Derived.Test.YtppbmhlmbepneaaSDrain
set_option linter.all false
namespace Go.Proofs.Ytppbmhlmbepneaa
open Go.RowKit
theorem clsh_dbl {l : List Itm} {ms : List RMove} {k : Nat} {n : Int} (hd : Dbl (ordL (rowsAt l ms k)) n) (hk : ∀ x ∈ rowsAt l ms k, okI x = true) : 0 ≤ n ↔ Clsh l ms k := by
  have h := dbl_neg hd (ok_ordL hk)
  unfold Clsh
  rw [← h]
  omega
theorem clsOf_bad {l : List Itm} {ms : List RMove} (h : ¬ (vMoves l ms ∧ ¬ Clsh l ms 0)) : ClsOf l ms (-2) := ⟨fun _ => rfl, fun h' => absurd h' h⟩
theorem clsOf_some {l : List Itm} {ms : List RMove} {k : Nat} (h : vMoves l ms ∧ ¬ Clsh l ms 0) (hk : k < ms.length) (h1 : Clsh l ms (k + 1)) (h2 : ∀ j, j < k → ¬ Clsh l ms (j + 1)) : ClsOf l ms (k : Int) := ⟨fun h' => absurd h h', fun _ => .inl ⟨k, hk, rfl, h1, h2⟩⟩
theorem clsOf_none {l : List Itm} {ms : List RMove} (h : vMoves l ms ∧ ¬ Clsh l ms 0) (h2 : ∀ j, j < ms.length → ¬ Clsh l ms (j + 1)) : ClsOf l ms (-1) := ⟨fun h' => absurd h h', fun _ => .inr ⟨rfl, h2⟩⟩
set_option maxHeartbeats 16000000 in
set_option maxRecDepth 100000 in
theorem sFirstClash_any (v u : Value) (l : List Itm) (ms : List RMove) (w : World) (h : Itms w v l) (hnil : NilOk v) (h' : Moves w u ms) :
    Calls Try.prog 37 #[v, u] w (InRet w (ClsOf l ms)) := by
  have HV := hide (svalidMoves_any v u l ms w h h')
  have HI := hide h
  obtain ⟨a, cap, rfl, -⟩ := h
  obtain ⟨ua, uc, rfl, hul, huc, hd⟩ := h'
  clear hnil
  go_enter Try.func37, Try.ntmps37
  go_wp2_with fail
  refine HV.out.mono ?_
  rintro e w1 ⟨q, rfl, hv, hb⟩
  have H1 := hide hb
  have HVV := hide hv
  have HI1 := hide (HI.out.keep hb)
  clear hb hv HV
  cases q with
  | false =>
    have HN : Hid (¬ (vMoves l ms ∧ ¬ Clsh l ms 0)) := fun h => by have := HVV.out.2 h.1; cases this
    go_wp2_with fail
    go_ret
    exact ⟨_, rfl, clsOf_bad HN.out, H1.out⟩
  | true =>
    have HY : Hid (vMoves l ms) := HVV.out.1 rfl
    have hl30 := HY.out.1.1.1
    have HO := hide (ordered_any _ l w1 HI1.out (by omega))
    clear HVV
    go_wp2_with fail
    refine HO.out.mono ?_
    rintro e w2 ⟨v2, rfl, ho, hb⟩
    have H2 : Hid (Below w.heap.size w w2) := H1.out.trans (hb.mono H1.out.size)
    have HD := hide (sdouble_any v2 _ w2 ho.itms)
    clear ho hb HO
    go_wp2_with fail
    refine HD.out.mono ?_
    rintro e w3 ⟨n, rfl, hdb, hb⟩
    have H3 : Hid (Below w.heap.size w w3) := H2.out.trans (hb.mono H2.out.size)
    have HC0 := hide (clsh_dbl (l := l) (ms := ms) (k := 0) hdb (HY.out.ok 0 (by omega)))
    clear hb hdb HD H1 H2 HI1
    by_cases hn : 0 ≤ n
    · have dn : decide (0 ≤ n) = true := decide_eq_true hn
      have HN : Hid (¬ (vMoves l ms ∧ ¬ Clsh l ms 0)) := fun h => h.2 (HC0.out.1 hn)
      clear hn
      go_wp2_with fail
      go_ret
      exact ⟨_, rfl, clsOf_bad HN.out, H3.out⟩
    have dn : decide (0 ≤ n) = false := decide_eq_false hn
    have HG : Hid (vMoves l ms ∧ ¬ Clsh l ms 0) := ⟨HY.out, fun h => hn (HC0.out.2 h)⟩
    have HI3 := hide (HI.out.keep H3.out)
    clear hn
    go_wp2_with fail
    go_loopg [0, 5] ms.length (fun gk sa sk wr => Below w.heap.size w wr ∧ ∃ k : Nat, k + gk = ms.length ∧ sk = .int .i64 (k : Int) ∧ Itms wr sa (rowsAt l ms k) ∧ ∀ j, j < k → ¬ Clsh l ms (j + 1))
    case atStart => exact ⟨H3.out, 0, by omega, rfl, HI3.out, fun j hj => by omega⟩
    case round =>
      clear HI3 H3
      obtain ⟨hbw, k, hk, rfl, hrows, hno⟩ := hrel
      have HW := hide hbw
      have HR := hide hrows
      have HNO := hide hno
      obtain ⟨ra, rc, rfl, -⟩ := hrows
      clear hno
      by_cases hlt : k < ms.length
      · obtain ⟨b, off, rfl, hbb, hcell⟩ := hd.resolve_left (by rintro rfl; simp at hlt)
        have hbl := Nat.lt_of_lt_of_le hbb hbw.size
        have E := hide ((hcell k hlt).keep hbw)
        have HS1 := hide (rowsAt_s (l := l) hlt)
        have hr30 := rows_len HY.out k (by omega)
        have hr31 := rows_len HY.out (k + 1) (by omega)
        have HOK := hide (HY.out.ok (k + 1) (by omega))
        have HCL := hide (fun n (hq : Dbl (ordL (rowsAt l ms (k + 1))) n) => clsh_dbl hq HOK.out)
        obtain ⟨m, hm⟩ : ∃ m, ms[k] = m := ⟨_, rfl⟩
        obtain ⟨R1, hR1⟩ : ∃ R1, rowsAt l ms (k + 1) = R1 := ⟨_, rfl⟩
        obtain ⟨R0, hR0⟩ : ∃ R0, rowsAt l ms k = R0 := ⟨_, rfl⟩
        have HR1 := hide hR1
        rw [hm] at E HS1
        rw [hR0] at HS1 HR hr30 ⊢
        rw [hR1] at HS1 HCL hr31
        clear hcell hd hbw hm hR1 hR0 HOK
        obtain ⟨sc, gn, row, key⟩ := m
        obtain ⟨e0, e1, e2, e3⟩ := E.out
        simp only at e0 e1 e2 e3
        cases sc with
        | true =>
          have HE : Hid (R1 = R0) := HS1.out
          have HOR := hide (ordered_any _ R0 wr HR.out (by omega))
          clear hr31
          go_wp2_with fail
          refine HOR.out.mono ?_
          rintro e w4 ⟨v4, rfl, ho, hb⟩
          have H4 : Hid (Below w.heap.size w w4) := HW.out.trans (hb.mono HW.out.size)
          have HR4 := hide (HR.out.keep hb)
          have HD := hide (sdouble_any v4 _ w4 ho.itms)
          clear ho hb HOR
          go_wp2_with fail
          refine HD.out.mono ?_
          rintro e w5 ⟨n5, rfl, hdb, hb⟩
          have H5 : Hid (Below w.heap.size w w5) := H4.out.trans (hb.mono H4.out.size)
          have HR5 := hide (HR4.out.keep hb)
          rw [← HE.out] at hdb
          have HC5 := hide (HCL.out _ hdb)
          clear hb hdb HD
          by_cases hn : 0 ≤ n5
          · have dn5 : decide (0 ≤ n5) = true := decide_eq_true hn
            have HF := hide (clsOf_some HG.out hlt (HC5.out.1 hn) HNO.out)
            clear hn
            go_wp2_with fail
            go_ret
            exact ⟨_, rfl, HF.out, H5.out⟩
          · have dn5 : decide (0 ≤ n5) = false := decide_eq_false hn
            have HN1 : Hid (∀ j, j < k + 1 → ¬ Clsh l ms (j + 1)) := fun j hj => by
              rcases Nat.lt_or_ge j k with q | q
              · exact HNO.out j q
              · obtain rfl : j = k := by omega
                exact fun h => hn (HC5.out.2 h)
            clear hn
            go_wp2_with fail
            go_roundg (gk - 1)
            case measure => omega
            case rel => exact ⟨H5.out, k + 1, by omega, by go_num, by rw [HR1.out, HE.out]; exact HR5.out, HN1.out⟩
        | false =>
          have HE : Hid (R1 = setRowL R0 ⟨false, gn, row, key⟩) := HS1.out
          have HSR := hide (setRow_any _ R0 ⟨false, gn, row, key⟩ wr HR.out (by omega))
          rw [← HE.out] at HSR
          go_wp2_with fail
          refine HSR.out.mono ?_
          rintro e w4 ⟨v4, rfl, ho, hb⟩
          have H4 : Hid (Below w.heap.size w w4) := HW.out.trans (hb.mono HW.out.size)
          have HR4 := hide ho.itms
          have HOR := hide (ordered_any _ R1 w4 ho.itms (by omega))
          obtain ⟨va, vc, rfl, -⟩ := own_slc ho
          clear ho hb HSR
          go_wp2_with fail
          refine HOR.out.mono ?_
          rintro e w5 ⟨v5, rfl, ho, hb⟩
          have H5 : Hid (Below w.heap.size w w5) := H4.out.trans (hb.mono H4.out.size)
          have HR5 := hide (HR4.out.keep hb)
          have HD := hide (sdouble_any v5 _ w5 ho.itms)
          clear ho hb HOR
          go_wp2_with fail
          refine HD.out.mono ?_
          rintro e w6 ⟨n6, rfl, hdb, hb⟩
          have H6 : Hid (Below w.heap.size w w6) := H5.out.trans (hb.mono H5.out.size)
          have HR6 := hide (HR5.out.keep hb)
          have HC6 := hide (HCL.out _ hdb)
          clear hb hdb HD
          by_cases hn : 0 ≤ n6
          · have dn6 : decide (0 ≤ n6) = true := decide_eq_true hn
            have HF := hide (clsOf_some HG.out hlt (HC6.out.1 hn) HNO.out)
            clear hn
            go_wp2_with fail
            go_ret
            exact ⟨_, rfl, HF.out, H6.out⟩
          · have dn6 : decide (0 ≤ n6) = false := decide_eq_false hn
            have HN1 : Hid (∀ j, j < k + 1 → ¬ Clsh l ms (j + 1)) := fun j hj => by
              rcases Nat.lt_or_ge j k with q | q
              · exact HNO.out j q
              · obtain rfl : j = k := by omega
                exact fun h => hn (HC6.out.2 h)
            clear hn
            go_wp2_with fail
            go_roundg (gk - 1)
            case measure => omega
            case rel => exact ⟨H6.out, k + 1, by omega, by go_num, by rw [HR1.out]; exact HR6.out, HN1.out⟩
      · have hkl : k = ms.length := by omega
        subst hkl
        have HF := hide (clsOf_none HG.out HNO.out)
        clear hd hbw
        go_wp2_with fail
        go_ret
        exact ⟨_, rfl, HF.out, HW.out⟩
set_option maxHeartbeats 32000000 in
set_option maxRecDepth 100000 in
theorem iFirstClash_any (v u : Value) (l : List Itm) (ms : List RMove) (w : World) (h : Itms w v l) (h' : Moves w u ms) :
    Calls Try.prog 36 #[v, u] w (InRet w (ClsOf l ms)) := by
  have HV := hide (newBuild_any v u l ms w h h')
  obtain ⟨a, cap, rfl, -⟩ := h
  obtain ⟨ua, uc, rfl, hul, huc, hd⟩ := h'
  go_enter Try.func36, Try.ntmps36
  go_wp2_with fail
  refine HV.out.mono ?_
  rintro e w1 ⟨hb, ⟨hp, g, rfl, hbx⟩ | ⟨hp, rfl⟩⟩
  rotate_left
  · have H1 := hide hb
    have HN : Hid (¬ (vMoves l ms ∧ ¬ Clsh l ms 0)) := fun h => hp ⟨h.1.1, fun j hj => (h.1.2 j hj).1⟩
    clear hb hp HV
    go_wp2_with fail
    go_ret
    exact ⟨_, rfl, clsOf_bad HN.out, H1.out⟩
  have H1 := hide hb
  have HX1 := hide hbx
  have HP := hide hp
  have hgw := hbx.lt
  have hl30 := hp.1.1.1
  have HND := hide (asc_nodup hp.1.1.2.2)
  obtain ⟨-, vr, vi, vs, h1, h2⟩ := hbx
  obtain ⟨⟨c0, c1, c2, c3⟩, -⟩ := cells4 h1
  have HSRT := hide (isorted_any vr l w1 h2.r.itms (by omega) HND.out)
  obtain ⟨ra, rc, rfl, -⟩ := own_slc h2.r
  clear hb hp HV h1 h2
  go_wp2_with fail
  refine HSRT.out.mono ?_
  rintro e w2 ⟨v2, rfl, ho, hb⟩
  have H2 : Hid (Below w.heap.size w w2) := H1.out.trans (hb.mono H1.out.size)
  have HX2 := hide (HX1.out.keep hb)
  have HD := hide (firstDouble_any v2 _ w2 ho.itms)
  clear ho hb HSRT HX1 c0 c1 c2 c3
  go_wp2_with fail
  refine HD.out.mono ?_
  rintro e w3 ⟨n, rfl, hdb, hb⟩
  have H3 : Hid (Below w.heap.size w w3) := H2.out.trans (hb.mono H2.out.size)
  have HX3 := hide (HX2.out.keep hb)
  have HC0 := hide (clsh_dbl (l := l) (ms := ms) (k := 0) hdb (HP.out.1.1.2.1))
  clear hb hdb HD H1 H2 HX2
  by_cases hn : 0 ≤ n
  · have dn : decide (0 ≤ n) = true := decide_eq_true hn
    have HN : Hid (¬ (vMoves l ms ∧ ¬ Clsh l ms 0)) := fun h => h.2 (HC0.out.1 hn)
    clear hn
    go_wp2_with fail
    go_ret
    exact ⟨_, rfl, clsOf_bad HN.out, H3.out⟩
  have dn : decide (0 ≤ n) = false := decide_eq_false hn
  have HG0 : Hid (¬ Clsh l ms 0) := fun h => hn (HC0.out.2 h)
  clear hn
  go_wp2_with fail
  go_loopg [7, 29] ms.length (fun gk sc sk wr => Below w.heap.size w wr ∧ ∃ k : Nat, k + gk = ms.length ∧ sk = .int .i64 (k : Int) ∧ BoxI w.heap.size g wr (bsAt l ms k) ∧ (∀ j, j ≤ k → (rowsAt l ms j).length ≤ 30) ∧ ∃ c : Int, sc = .int .i64 c ∧ ((c = -1 ∧ ∀ j, j < k → ¬ Clsh l ms (j + 1)) ∨ (∃ i, i < k ∧ c = (i : Int) ∧ Clsh l ms (i + 1) ∧ ∀ j, j < i → ¬ Clsh l ms (j + 1))))
  case atStart => exact ⟨H3.out, 0, by omega, rfl, HX3.out, fun j hj => (Nat.le_zero.1 hj) ▸ HP.out.1.1.1, -1, rfl, .inl ⟨rfl, fun j hj => by omega⟩⟩
  case round =>
    clear HX3 H3
    obtain ⟨hbw, k, hk, rfl, hbx, hln, c, rfl, hc⟩ := hrel
    have HW := hide hbw
    have HX := hide hbx
    have HLN := hide hln
    have HCC := hide hc
    clear hln hbx hc
    by_cases hlt : k < ms.length
    · obtain ⟨b, off, rfl, hbb, hcell⟩ := hd.resolve_left (by rintro rfl; simp at hlt)
      have hbl := Nat.lt_of_lt_of_le hbb hbw.size
      have E := hide ((hcell k hlt).keep hbw)
      have HI := hide (InvB.at (ms := ms) HP.out.1.1 (fun j hj => HP.out.2 j hj) k (by omega))
      have HI1 := hide (InvB.at (ms := ms) HP.out.1.1 (fun j hj => HP.out.2 j hj) (k + 1) (by omega))
      have HR1 := hide (bsAt_rows l ms (k + 1) hlt)
      have HR0 := hide (bsAt_rows l ms k (by omega))
      have HS := hide (bsAt_s (l := l) hlt)
      have hsd := (side_len l ms k (by omega)).1
      have hpl := HP.out.1.2
      have HOK := hide (ok_rowsAt HP.out.1.1.2.1 (fun j hj => HP.out.2 j hj) (k + 1) (by omega))
      have HCL := hide (fun n (hq : Dbl (ordL (rowsAt l ms (k + 1))) n) => clsh_dbl hq HOK.out)
      have HND1 := hide (asc_nodup (asc_rowsAt HP.out.1.1.2.2 ms (k + 1) hlt))
      obtain ⟨m, hm⟩ : ∃ m, ms[k] = m := ⟨_, rfl⟩
      have HM : Hid (okM m) := hm ▸ HP.out.2 k hlt
      rw [hm] at E HS
      clear hcell hd hbw hm HOK
      obtain ⟨B1, hB1⟩ : ∃ B1, bsAt l ms (k + 1) = B1 := ⟨_, rfl⟩
      obtain ⟨B0, hB0⟩ : ∃ B0, bsAt l ms k = B0 := ⟨_, rfl⟩
      have HB1 := hide hB1
      rw [hB0] at HI HR0 HS HX hsd
      rw [hB1] at HR1 HS HI1
      clear hB1 hB0
      have hrl0 : B0.rows.length ≤ 30 := by rw [HR0.out]; exact HLN.out k (Nat.le_refl _)
      have hil := HI.out.itl
      have HALL : Hid ((rowsAt l ms (k + 1)).length ≤ 30 → ∀ j, j ≤ k + 1 → (rowsAt l ms j).length ≤ 30) := fun h j hj => by
        rcases Nat.lt_or_ge j (k + 1) with q | q
        · exact HLN.out j (by omega)
        · obtain rfl : j = k + 1 := by omega
          exact h
      have HBAD : Hid (¬ (rowsAt l ms (k + 1)).length ≤ 30 → ¬ (vMoves l ms ∧ ¬ Clsh l ms 0)) := fun h h' => h (rows_len h'.1 (k + 1) hlt)
      rw [← HR1.out] at HALL HBAD HCL HND1
      -- what a round does behind the move, from any world that the move leaves
      have HCN : Hid (∀ n5 : Int, (0 ≤ n5 ↔ Clsh l ms (k + 1)) → c < 0 → (0 ≤ n5 → (∃ i, i < k + 1 ∧ (k : Int) = (i : Int) ∧ Clsh l ms (i + 1) ∧ ∀ j, j < i → ¬ Clsh l ms (j + 1))) ∧ (¬ 0 ≤ n5 → c = -1 ∧ ∀ j, j < k + 1 → ¬ Clsh l ms (j + 1))) := fun n5 hiff hc0 => by
        have hc := HCC.out
        rcases hc with ⟨hc1, hc2⟩ | ⟨i, hi, hc1, hc2, hc3⟩
        · refine ⟨fun h => ⟨k, by omega, rfl, hiff.1 h, hc2⟩, fun h => ⟨hc1, fun j hj => ?_⟩⟩
          rcases Nat.lt_or_ge j k with q | q
          · exact hc2 j q
          · obtain rfl : j = k := by omega
            exact fun h' => h (hiff.2 h')
        · omega
      have HCP : Hid (¬ c < 0 → (∃ i, i < k + 1 ∧ c = (i : Int) ∧ Clsh l ms (i + 1) ∧ ∀ j, j < i → ¬ Clsh l ms (j + 1))) := fun hc0 => by
        have hc := HCC.out
        rcases hc with ⟨hc1, hc2⟩ | ⟨i, hi, hc1, hc2, hc3⟩
        · omega
        · exact ⟨i, by omega, hc1, hc2, hc3⟩
      have HSRT := hide (fun z (vr : Value) (hz : Itms z vr B1.rows) (hl : B1.rows.length ≤ 30) => isorted_any vr B1.rows z hz (by omega) HND1.out)
      obtain ⟨sc, gn, row, key⟩ := m
      obtain ⟨e0, e1, e2, e3⟩ := E.out
      simp only at e0 e1 e2 e3
      have HWB : Hid (Below w.heap.size w (wr.alloc (.cells #[.bool sc, .bool gn, .int .i64 row, .int .i64 key] 42))) := HW.out.alloc HW.out.size _
      have HXB := hide (HX.out.keep (below_box wr (.cells #[.bool sc, .bool gn, .int .i64 row, .int .i64 key] 42)))
      clear HX HLN HR0 HCC
      obtain ⟨ok, hok⟩ : ∃ ok : Bool, ok = decide (B1.rows.length ≤ 30) := ⟨_, rfl⟩
      have HC : Hid (Calls Try.prog 64 #[.pointer (some ⟨g, 0, none⟩), .agg #[.bool sc, .bool gn, .int .i64 row, .int .i64 key]] (wr.alloc (.cells #[.bool sc, .bool gn, .int .i64 row, .int .i64 key] 42)) (StepRet w.heap.size g (wr.alloc (.cells #[.bool sc, .bool gn, .int .i64 row, .int .i64 key] 42)) (.bool ok) B1)) := by
        cases sc with
        | true =>
          have hE : B1 = scanB B0 := HS.out
          have hok' : ok = true := by rw [hok, hE, (scanB_rows B0).1]; exact decide_eq_true hrl0
          have q := imove_scan w.heap.size g B0 ⟨true, gn, row, key⟩ _ HXB.out HI.out rfl (by omega) (by omega)
          rw [← hE] at q
          rw [hok']
          exact q
        | false =>
          have hrw := (HM.out rfl).1
          simp only at hrw
          have hE : changeB B0 ⟨false, gn, row, key⟩ = B1 := HS.out.symm
          have q := imove_change w.heap.size g B0 gn row key _ HXB.out HI.out hrw.1 hrw.2 hrl0 (by omega)
          rw [hE, ← hok] at q
          exact q
      clear HXB HS HM
      have HOKE := hide hok
      clear hok
      cases ok with
      | false =>
        have HQ := hide (show ¬ B1.rows.length ≤ 30 from of_decide_eq_false HOKE.out.symm)
        go_wp2_with fail
        refine HC.out.mono ?_
        rintro e w2 ⟨rfl, hbx, hb⟩
        have H2 : Hid (Below w.heap.size w w2) := HWB.out.trans hb
        clear hb hbx HC
        go_wp2_with fail
        go_ret
        exact ⟨_, rfl, clsOf_bad (HBAD.out HQ.out), H2.out⟩
      | true =>
        have HQ := hide (show B1.rows.length ≤ 30 from of_decide_eq_true HOKE.out.symm)
        by_cases hc0 : c < 0
        · have dc0 : decide (c < 0) = true := decide_eq_true hc0
          have HC0' := hide hc0
          clear hc0
          go_wp2_with fail
          refine HC.out.mono ?_
          rintro e w2 ⟨rfl, hbx, hb⟩
          have H2 : Hid (Below w.heap.size w w2) := HWB.out.trans hb
          have HX2 := hide hbx
          have hgw2 := hbx.lt
          obtain ⟨-, vr, vi, vs, h1, h2⟩ := hbx
          obtain ⟨⟨c0, c1, c2, c3⟩, -⟩ := cells4 h1
          have HS2 := hide (HSRT.out w2 vr h2.r.itms HQ.out)
          obtain ⟨ra, rc, rfl, -⟩ := own_slc h2.r
          clear hb HC h1 h2 HSRT
          go_wp2_with fail
          refine HS2.out.mono ?_
          rintro e w4 ⟨v4, rfl, ho, hb⟩
          have H4 : Hid (Below w.heap.size w w4) := H2.out.trans (hb.mono H2.out.size)
          have HX4 := hide (HX2.out.keep hb)
          have HD := hide (firstDouble_any v4 _ w4 ho.itms)
          clear ho hb HS2 HX2 c0 c1 c2 c3
          go_wp2_with fail
          refine HD.out.mono ?_
          rintro e w5 ⟨n5, rfl, hdb, hb⟩
          have H5 : Hid (Below w.heap.size w w5) := H4.out.trans (hb.mono H4.out.size)
          have HX5 := hide (HX4.out.keep hb)
          have HCF := hide (HCN.out n5 (HCL.out _ hdb) HC0'.out)
          clear hb hdb HD HCN HCL HX4
          by_cases hn : 0 ≤ n5
          · have dn5 : decide (0 ≤ n5) = true := decide_eq_true hn
            have HF := hide (HCF.out.1 hn)
            clear hn
            go_wp2_with fail
            go_roundg (gk - 1)
            case measure => omega
            case rel => exact ⟨H5.out, k + 1, by omega, by go_num, by rw [HB1.out]; exact HX5.out, HALL.out HQ.out, _, rfl, .inr HF.out⟩
          · have dn5 : decide (0 ≤ n5) = false := decide_eq_false hn
            have HF := hide (HCF.out.2 (by omega))
            clear hn
            go_wp2_with fail
            go_roundg (gk - 1)
            case measure => omega
            case rel => exact ⟨H5.out, k + 1, by omega, by go_num, by rw [HB1.out]; exact HX5.out, HALL.out HQ.out, _, rfl, .inl HF.out⟩
        · have dc0 : decide (c < 0) = false := decide_eq_false hc0
          have HF := hide (HCP.out hc0)
          clear hc0
          go_wp2_with fail
          refine HC.out.mono ?_
          rintro e w2 ⟨rfl, hbx, hb⟩
          have H2 : Hid (Below w.heap.size w w2) := HWB.out.trans hb
          have HX2 := hide hbx
          clear hb hbx HC
          go_wp2_with fail
          go_roundg (gk - 1)
          case measure => omega
          case rel => exact ⟨H2.out, k + 1, by omega, by go_num, by rw [HB1.out]; exact HX2.out, HALL.out HQ.out, _, rfl, .inr HF.out⟩
    · have hkl : k = ms.length := by omega
      subst hkl
      have HY : Hid (vMoves l ms ∧ ¬ Clsh l ms 0) := ⟨vMoves_of HP.out.1.1 HP.out.1.2 (fun j hj => ⟨HP.out.2 j hj, HLN.out (j + 1) hj⟩), HG0.out⟩
      have HF : Hid (ClsOf l ms c) := by
        rcases HCC.out with ⟨hc1, hc2⟩ | ⟨i, hi, hc1, hc2, hc3⟩
        · rw [hc1]; exact clsOf_none HY.out hc2
        · rw [hc1]; exact clsOf_some HY.out hi hc2 hc3
      clear hd hbw
      go_wp2_with fail
      go_ret
      exact ⟨_, rfl, HF.out, HW.out⟩
end Go.Proofs.Ytppbmhlmbepneaa
