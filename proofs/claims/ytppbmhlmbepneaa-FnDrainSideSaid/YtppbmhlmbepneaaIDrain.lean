/-
  drain and DrainSide of the program.
-/
import Derived.Test.YtppbmhlmbepneaaIRun
set_option linter.all false
namespace Go.Proofs.Ytppbmhlmbepneaa
open Go.RowKit
theorem item_ad {B c k : Nat} {a : Option Addr} {w : World} {rs : List Itm} (h : OwnI B w (.slice a rs.length c) rs) (hk : k < rs.length) : ∃ rb, a = some ⟨rb, 0, none⟩ := by
  obtain ⟨rb, h1, -⟩ := row_key h hk
  exact ⟨rb, h1⟩
theorem own_z {B k : Nat} {w : World} {v : Value} {l : List Itm} (h : OwnI B w v l) (hk : v.ownBlock = some k) : B ≤ k := (World.ownsRow.lt h k hk).1
/-- one step of drain, on what is there -/
theorem drnS_gone {l : List Itm} {row key : Int} (hs : SrtI l) : drnS l ⟨false, true, row, key⟩ = if hasI l ⟨key, row⟩ then delK l (posI l ⟨key, row⟩) else l := by
  unfold drnS
  simp only [if_true]
  show delL l ⟨key, row⟩ = _
  cases hq : hasI l ⟨key, row⟩ with
  | true => simp only [if_true]; exact delL_parts hs _ hq
  | false => simp only [Bool.false_eq_true, if_false]; exact delL_no hq
theorem drnS_put {l : List Itm} {row key : Int} (hs : SrtI l) : drnS l ⟨false, false, row, key⟩ = if hasI l ⟨key, row⟩ then l else insK l (posI l ⟨key, row⟩) ⟨key, row⟩ := by
  unfold drnS
  simp only [Bool.false_eq_true, if_false]
  show (if hasI l ⟨key, row⟩ = true then l else putL l ⟨key, row⟩) = _
  cases hq : hasI l ⟨key, row⟩ with
  | true => simp only [if_true]
  | false => simp only [Bool.false_eq_true, if_false]; exact putL_parts hs _ hq
set_option maxHeartbeats 32000000 in
set_option maxRecDepth 100000 in
theorem drain_any (z w : World) (v u : Value) (l : List Itm) (ms : List RMove) (hzw : Below z.heap.size z w) (h : OwnI z.heap.size w v l) (h' : Moves z u ms) (hs : SrtI l) (hl : l.length ≤ 300) (hml : ms.length ≤ 300) (hsc : ∀ m ∈ ms, m.scan = false) :
    Calls Try.prog 55 #[v, u] w fun e w' => ∃ v', e = .returned v' ∧ OwnI z.heap.size w' v' (drnL l ms) ∧ Below z.heap.size z w' := by
  obtain ⟨ua, uc, rfl, hul, huc, hd⟩ := h'
  have HZ := hide hzw
  have HO := hide h
  have HSC := hide (fun k (hk : k < ms.length) => hsc _ (List.getElem_mem hk))
  have HSR := hide hs
  obtain ⟨va, vc, rfl, -⟩ := own_slc h
  clear hzw h hs hsc
  go_enter Try.func55, Try.ntmps55
  go_wp2_with fail
  go_loopg [0, 12] ms.length (fun gk sv sk wr => Below z.heap.size z wr ∧ ∃ k : Nat, k + gk = ms.length ∧ sk = .int .i64 (k : Int) ∧ OwnI z.heap.size wr sv (drnL l (ms.take k)))
  case atStart => exact ⟨HZ.out, 0, by omega, rfl, HO.out⟩
  case round =>
    clear HZ HO
    obtain ⟨hbw, k, hk, rfl, hown⟩ := hrel
    have HW := hide hbw
    have HO := hide hown
    clear hown
    by_cases hlt : k < ms.length
    · obtain ⟨b, off, rfl, hbb, hcell⟩ := hd.resolve_left (by rintro rfl; simp at hlt)
      have hbl := Nat.lt_of_lt_of_le hbb hbw.size
      have E := hide ((hcell k hlt).keep hbw)
      have HS := hide (drnL_take (l := l) hlt)
      have hln := drnL_len l (ms.take k)
      have HSK := hide (srt_drnL HSR.out (ms.take k))
      rw [List.length_take] at hln
      have hsc := HSC.out k hlt
      obtain ⟨m, hm⟩ : ∃ m, ms[k] = m := ⟨_, rfl⟩
      rw [hm] at E HS hsc
      clear hcell hd hbw hm
      obtain ⟨D1, hD1⟩ : ∃ D1, drnL l (ms.take (k + 1)) = D1 := ⟨_, rfl⟩
      obtain ⟨D0, hD0⟩ : ∃ D0, drnL l (ms.take k) = D0 := ⟨_, rfl⟩
      have HD1 := hide hD1
      rw [hD0] at HS HSK HO hln
      rw [hD1] at HS
      clear hD1 hD0
      have hlb : D0.length ≤ 600 := by omega
      clear hln
      obtain ⟨sc, gn, row, key⟩ := m
      simp only at hsc
      subst hsc
      obtain ⟨e0, e1, e2, e3⟩ := E.out
      simp only at e0 e1 e2 e3
      obtain ⟨ra, rc, rfl, -⟩ := own_slc HO.out
      have hz := HW.out.size
      have BB := hide (below_box2 wr (.cells #[.bool false, .bool gn, .int .i64 row, .int .i64 key] 42) (.cells #[.int .i64 key, .int .i64 row] 29))
      have HOB := hide (HO.out.keep BB.out)
      have HWB : Hid (Below z.heap.size z ((wr.alloc (.cells #[.bool false, .bool gn, .int .i64 row, .int .i64 key] 42)).alloc (.cells #[.int .i64 key, .int .i64 row] 29))) := HW.out.trans (BB.out.mono hz)
      have HX0 : Hid (((wr.alloc (.cells #[.bool false, .bool gn, .int .i64 row, .int .i64 key] 42)).alloc (.cells #[.int .i64 key, .int .i64 row] 29)).heap[wr.heap.size]? = some (.cells #[.bool false, .bool gn, .int .i64 row, .int .i64 key] 42 (0, 0))) := blk_keep (blk_alloc wr _) _
      have HX1 : Hid (((wr.alloc (.cells #[.bool false, .bool gn, .int .i64 row, .int .i64 key] 42)).alloc (.cells #[.int .i64 key, .int .i64 row] 29)).heap[wr.heap.size + 1]? = some (.cells #[.int .i64 key, .int .i64 row] 29 (0, 0))) := by
        have := blk_alloc (wr.alloc (.cells #[.bool false, .bool gn, .int .i64 row, .int .i64 key] 42)) (.cells #[.int .i64 key, .int .i64 row] 29)
        unfold Hid
        simpa using this
      have HB := hide (bsI_any (.slice ra D0.length rc) D0 ⟨key, row⟩ _ HOB.out.itms HSK.out (by omega))
      have HGD := hide (drnS_gone (row := row) (key := key) HSK.out)
      have HPD := hide (drnS_put (row := row) (key := key) HSK.out)
      have hpl := posI_le D0 ⟨key, row⟩
      have HLT : Hid (hasI D0 ⟨key, row⟩ = true → posI D0 ⟨key, row⟩ < D0.length) := fun h => ((hasI_of HSK.out _).1 h).1
      clear HO BB HW HSK
      generalize posI D0 ⟨key, row⟩ = p at *
      generalize hasI D0 ⟨key, row⟩ = fd at *
      go_wp2_with fail
      refine HB.out.mono ?_
      rintro e w2 ⟨rfl, hb⟩
      have HO2 := hide (HOB.out.keep hb)
      have H2 : Hid (Below z.heap.size z w2) := HWB.out.trans (hb.mono HWB.out.size)
      have HY0 := hide (blk_own hb HX0.out)
      have HY1 := hide (blk_own hb HX1.out)
      have hs2 := hb.size
      have hzs := H2.out.size
      obtain ⟨y0, y1, y2, y3⟩ : w2.cell? ⟨wr.heap.size, 0, none⟩ = some (.bool false) ∧ w2.cell? ⟨wr.heap.size, 1, none⟩ = some (.bool gn) ∧ w2.cell? ⟨wr.heap.size, 2, none⟩ = some (.int .i64 row) ∧ w2.cell? ⟨wr.heap.size, 3, none⟩ = some (.int .i64 key) := ⟨cell_block HY0.out 0, cell_block HY0.out 1, cell_block HY0.out 2, cell_block HY0.out 3⟩
      obtain ⟨x0, x1⟩ : w2.cell? ⟨wr.heap.size + 1, 0, none⟩ = some (.int .i64 key) ∧ w2.cell? ⟨wr.heap.size + 1, 1, none⟩ = some (.int .i64 row) := ⟨cell_block HY1.out 0, cell_block HY1.out 1⟩
      clear hb HOB HWB HX0 HX1 HB
      cases gn with
      | true =>
        cases fd with
        | true =>
          have hpk := HLT.out rfl
          have HE := hide (show D1 = delK D0 p by have := HS.out.trans HGD.out; simpa using this)
          obtain ⟨rb, rfl⟩ := item_ad HO2.out hpk
          go_wp2_with fail
          refine (delI_any z.heap.size rb rc p _ D0 _ HO2.out hpk (by omega)).mono ?_
          rintro e w3 ⟨rfl, ho, hg⟩
          have HO3 := hide ho
          have H3 : Hid (Below z.heap.size z w3) := H2.out.grown hg hzs (fun q hq => own_z HO2.out hq)
          clear ho hg
          clear y0 y1 y2 y3 x0 x1 e0 e1 e2 e3
          go_wp2_with fail
          go_roundg (gk - 1)
          case measure => omega
          case rel => exact ⟨H3.out, k + 1, by omega, by go_num, by rw [HD1.out, HE.out]; exact HO3.out⟩
        | false =>
          have HE := hide (show D1 = D0 by have := HS.out.trans HGD.out; simpa using this)
          go_wp2_with fail
          go_roundg (gk - 1)
          case measure => omega
          case rel => exact ⟨H2.out, k + 1, by omega, by go_num, by rw [HD1.out, HE.out]; exact HO2.out⟩
      | false =>
        cases fd with
        | true =>
          have HE := hide (show D1 = D0 by have := HS.out.trans HPD.out; simpa using this)
          go_wp2_with fail
          go_roundg (gk - 1)
          case measure => omega
          case rel => exact ⟨H2.out, k + 1, by omega, by go_num, by rw [HD1.out, HE.out]; exact HO2.out⟩
        | false =>
          have HE := hide (show D1 = insK D0 p ⟨key, row⟩ by have := HS.out.trans HPD.out; simpa using this)
          have HI : Hid (∀ j : Int, j = (p : Int) → Calls Try.prog 76 #[.slice ra D0.length rc, .int .i64 j, .slice (some ⟨w2.heap.size, 0, none⟩) 1 1] (w2.alloc (.cells #[.int .i64 key, .int .i64 row] 29)) (InsRet z.heap.size (.slice ra D0.length rc) (insK D0 p ⟨key, row⟩) (w2.alloc (.cells #[.int .i64 key, .int .i64 row] 29)))) := fun j hj => by
            subst hj
            exact insI_any z.heap.size w2.heap.size 1 p _ ⟨key, row⟩ D0 _ (HO2.out.alloc _) (by simp; omega) (by omega) (by omega) (blk_alloc w2 _) (fun e => by have := (World.ownsRow.lt HO2.out _ e).2; omega)
          go_wp2_with fail
          refine (HI.out _ (by rfl)).mono ?_
          rintro e w3 ⟨gg, cap3, rfl, ho, hg, hat⟩
          have H3 : Hid (Below z.heap.size z w3) := (H2.out.alloc hzs _).grown hg (by simp; omega) (fun q hq => own_z HO2.out hq)
          have HO3 := hide ho
          clear ho hg hat y0 y1 y2 y3 x0 x1 e0 e1 e2 e3
          go_wp2_with fail
          go_roundg (gk - 1)
          case measure => omega
          case rel => exact ⟨H3.out, k + 1, by omega, by go_num, by rw [HD1.out, HE.out]; exact HO3.out⟩
    · have hkl : k = ms.length := by omega
      subst hkl
      rw [List.take_length] at HO
      obtain ⟨ra, rc, rfl, -⟩ := own_slc HO.out
      clear hd hbw
      go_wp2_with fail
      go_ret
      exact ⟨_, rfl, HO.out, HW.out⟩
set_option maxHeartbeats 16000000 in
set_option maxRecDepth 100000 in
theorem iDrainSide_any (v u : Value) (l : List Itm) (ms : List RMove) (w : World) (h : Itms w v l) (h' : Moves w u ms) :
    Calls Try.prog 27 #[v, u] w (ItsRet w (DrnOf l ms)) := by
  have HI := hide h
  have HM := hide h'
  obtain ⟨a, cap, rfl, hl, hcap, -⟩ := h
  obtain ⟨ua, uc, rfl, hul, huc, hd⟩ := h'
  have HV := hide (inOrder_any _ l w HI.out)
  by_cases h30 : (30 : Int) < (l.length : Int)
  · have d30 : decide ((30 : Int) < (l.length : Int)) = true := decide_eq_true h30
    have HN : Hid (¬ vSide l ms) := fun h => by have := h.1.1.2; omega
    clear h30 HV
    go_enter Try.func27, Try.ntmps27
    go_wp2_with fail
    go_ret
    exact ⟨_, [], rfl, ⟨fun h => absurd h HN.out, fun _ => rfl⟩, World.ownsRow_nil _ _ _ _, Below.refl _ _⟩
  have d30 : decide ((30 : Int) < (l.length : Int)) = false := decide_eq_false h30
  have HL : Hid (l.length ≤ 30) := by unfold Hid; omega
  clear h30
  go_enter Try.func27, Try.ntmps27
  go_wp2_with fail
  refine HV.out.mono ?_
  rintro e w1 ⟨q, rfl, hv, hb⟩
  have H1 := hide hb
  have HVV := hide hv
  clear hb hv HV
  cases q with
  | false =>
    have HN : Hid (¬ vSide l ms) := fun h => by have := HVV.out.2 h.1.1.1; cases this
    go_wp2_with fail
    go_ret
    exact ⟨_, [], rfl, ⟨fun h => absurd h HN.out, fun _ => rfl⟩, World.ownsRow_nil _ _ _ _, H1.out⟩
  | true =>
    have HY : Hid (ordI l) := HVV.out.1 rfl
    clear HVV
    by_cases h32 : (32 : Int) < (ms.length : Int)
    · have d32 : decide ((32 : Int) < (ms.length : Int)) = true := decide_eq_true h32
      have HN : Hid (¬ vSide l ms) := fun h => by have := h.1.2; omega
      clear h32
      go_wp2_with fail
      go_ret
      exact ⟨_, [], rfl, ⟨fun h => absurd h HN.out, fun _ => rfl⟩, World.ownsRow_nil _ _ _ _, H1.out⟩
    have d32 : decide ((32 : Int) < (ms.length : Int)) = false := decide_eq_false h32
    have HL2 : Hid (ms.length ≤ 32) := by unfold Hid; omega
    clear h32
    go_wp2_with fail
    go_loopg [22] ms.length (fun gk sk wr => Below w.heap.size w wr ∧ ∃ k : Nat, k + gk = ms.length ∧ sk = .int .i64 (k : Int) ∧ ∀ j (h : j < ms.length), j < k → ms[j].scan = false ∧ vMove ms[j])
    case atStart => exact ⟨H1.out, 0, by omega, rfl, fun j _ hj => by omega⟩
    case round =>
      obtain ⟨hbw, k, hk, rfl, hP⟩ := hrel
      have HW := hide hbw
      have HP := hide hP
      clear hP
      by_cases hlt : k < ms.length
      · obtain ⟨b, off, rfl, hbb, hcell⟩ := hd.resolve_left (by rintro rfl; simp at hlt)
        have hbl := Nat.lt_of_lt_of_le hbb hbw.size
        have E := hide ((hcell k hlt).keep hbw)
        obtain ⟨m, hm⟩ : ∃ m, ms[k] = m := ⟨_, rfl⟩
        have HA : Hid (¬ (m.scan = false ∧ vMove m) → ¬ vSide l ms) := fun h h' => h (hm ▸ h'.2 _ (List.getElem_mem hlt))
        have HS : Hid (m.scan = false ∧ vMove m → ∀ j (h : j < ms.length), j < k + 1 → ms[j].scan = false ∧ vMove ms[j]) := fun h j hj hjk => by
          rcases Nat.lt_or_ge j k with q | q
          · exact HP.out j hj q
          · obtain rfl : j = k := by omega
            rw [hm]; exact h
        rw [hm] at E
        clear hcell hd hbw hm
        obtain ⟨sc, gn, row, key⟩ := m
        obtain ⟨e0, e1, e2, e3⟩ := E.out
        simp only at e0 e1 e2 e3
        have HWB : Hid (Below w.heap.size w (wr.alloc (.cells #[.bool sc, .bool gn, .int .i64 row, .int .i64 key] 42))) := HW.out.alloc HW.out.size _
        cases sc with
        | true =>
          have HN := hide (HA.out (fun h => by cases h.1))
          go_wp2_with fail
          go_ret
          exact ⟨_, [], rfl, ⟨fun h => absurd h HN.out, fun _ => rfl⟩, World.ownsRow_nil _ _ _ _, HWB.out⟩
        | false =>
          have HC := hide (fun z => mvalid_any ⟨false, gn, row, key⟩ z)
          cases hok : vMoveB ⟨false, gn, row, key⟩ with
          | false =>
            have HOK := hide hok
            clear hok
            go_wp2_with fail
            refine (HC.out _).mono ?_
            rintro e w2 ⟨rfl, hb⟩
            have H2 : Hid (Below w.heap.size w w2) := HWB.out.trans (hb.mono HWB.out.size)
            have HN := hide (HA.out (fun h => by have := (vMoveB_iff _).2 h.2; rw [HOK.out] at this; cases this))
            rw [HOK.out]
            clear hb HC
            go_wp2_with fail
            go_ret
            exact ⟨_, [], rfl, ⟨fun h => absurd h HN.out, fun _ => rfl⟩, World.ownsRow_nil _ _ _ _, H2.out⟩
          | true =>
            have HOK := hide hok
            clear hok
            go_wp2_with fail
            refine (HC.out _).mono ?_
            rintro e w2 ⟨rfl, hb⟩
            have H2 : Hid (Below w.heap.size w w2) := HWB.out.trans (hb.mono HWB.out.size)
            have HN := hide (HS.out ⟨by first | rfl | trivial, (vMoveB_iff _).1 HOK.out⟩)
            rw [HOK.out]
            clear hb HC
            go_wp2_with fail
            go_roundg (gk - 1)
            case measure => omega
            case rel => exact ⟨H2.out, k + 1, by omega, by go_num, HN.out⟩
      · have hkl : k = ms.length := by omega
        subst hkl
        have HA : Hid (vSide l ms) := ⟨⟨⟨HY.out, HL.out⟩, HL2.out⟩, fun m hm => by
          obtain ⟨j, hj, rfl⟩ := List.getElem_of_mem hm
          exact HP.out j hj hj⟩
        have HMW := hide (HM.out.keep HW.out)
        have HCL := hide (cloneI_any _ l wr (HI.out.keep HW.out) (by have := HL.out; omega))
        clear hd hbw
        go_wp2_with fail
        refine HCL.out.mono ?_
        rintro e w2 ⟨v', rfl, ho, hb⟩
        have HO := hide ho
        have HB := hide hb
        have HDR := hide (drain_any wr w2 v' _ l ms hb ho HMW.out (ordI_srt HY.out) (by have := HL.out; omega) (by have := HL2.out; omega) (fun m hm => (HA.out.2 m hm).1))
        obtain ⟨va, vc, rfl, -⟩ := own_slc ho
        clear hb ho HCL
        go_wp2_with fail
        refine HDR.out.mono ?_
        rintro e w3 ⟨v3, rfl, ho, hb⟩
        have HO3 : Hid (OwnI w.heap.size w3 v3 (drnL l ms)) := own_mono ho HW.out.size
        have H3 : Hid (Below w.heap.size w w3) := HW.out.trans (hb.mono HW.out.size)
        clear ho hb HDR
        go_wp2_with fail
        go_ret
        exact ⟨v3, _, rfl, ⟨fun _ => rfl, fun h => absurd HA.out h⟩, HO3.out, H3.out⟩
end Go.Proofs.Ytppbmhlmbepneaa
