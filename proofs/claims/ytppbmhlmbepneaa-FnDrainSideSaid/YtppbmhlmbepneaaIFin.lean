/-
  finish, BuildOnline, CanBeUnique and FirstClash of the program.
-/
import Derived.Test.YtppbmhlmbepneaaIDrain
import Derived.Test.YtppbmhlmbepneaaIdx
import Derived.Deep.RegionHeld3
set_option linter.all false
namespace Go.Proofs.Ytppbmhlmbepneaa
open Go.RowKit
set_option maxHeartbeats 16000000 in
set_option maxRecDepth 100000 in
theorem finish_any (B g : Nat) (b : BS) (w : World) (h : BoxI B g w b) (hv : InvB b) (hrl : b.rows.length ≤ 1000) (hsl : b.side.length ≤ 300) :
    Calls Try.prog 59 #[.pointer (some ⟨g, 0, none⟩)] w fun e w' => ∃ v', e = .returned v' ∧ OwnI B w' v' (ordL b.rows) ∧ Below B w w' := by
  have HX := hide h
  have HV := hide hv
  have HRL := hide hrl
  have HSL := hide hsl
  clear h hv hrl hsl
  go_enter Try.func59, Try.ntmps59
  go_wp2_with fail
  go_loopg [] ((99 - b.pos).toNat) (fun gk wr => Below B w wr ∧ ∃ b' : BS, BoxI B g wr b' ∧ InvB b' ∧ b'.rows = b.rows ∧ b'.side = b.side ∧ (99 - b'.pos).toNat = gk)
  case atStart => exact ⟨Below.refl _ _, b, HX.out, HV.out, rfl, rfl, rfl⟩
  case round =>
    clear HX HV
    obtain ⟨hbw, b', hbx, hv, hr, hs, hp⟩ := hrel
    have HW := hide hbw
    have HX := hide hbx
    have HV := hide hv
    have HR := hide hr
    have HS := hide hs
    have HP := hide hp
    have HC := hide (iscan_any B g b' wr hbx hv (by rw [hr]; exact HRL.out) (by have := hv.itl; omega))
    have hgw := hbx.lt
    have hBg := hbx.1
    clear hbw hbx hv hr hs hp
    cases hT : scanT b' with
    | true =>
      rw [hT] at HC
      have HT := hide hT
      clear hT
      go_wp2_with fail
      refine HC.out.mono ?_
      rintro e w2 ⟨rfl, hbx, hb⟩
      have H2 : Hid (Below B w w2) := HW.out.trans hb
      have HX2 := hide hbx
      have hq := HV.out.scan.pos
      have hq2 := scan_more HV.out HT.out
      have hq3 := HP.out
      clear hb hbx HC
      go_wp2_with fail
      go_roundg ((99 - (scanB b').pos).toNat)
      case measure => omega
      case rel => exact ⟨H2.out, scanB b', HX2.out, HV.out.scan, (scanB_rows b').1.trans HR.out, (scanB_rows b').2.trans HS.out, rfl⟩
    | false =>
      rw [hT] at HC
      have hpos := (scanT_pos HV.out hT).1
      have HD := hide (HV.out.scan.done hpos)
      have HVV := hide HV.out.scan
      have HRR := hide ((scanB_rows b').1.trans HR.out)
      have HSS := hide ((scanB_rows b').2.trans HS.out)
      clear hT hpos HV HX
      go_wp2_with fail
      refine HC.out.mono ?_
      rintro e w2 ⟨rfl, hbx, hb⟩
      have H2 : Hid (Below B w w2) := HW.out.trans hb
      clear hb HC HW
      obtain ⟨b2, hb2⟩ : ∃ b2, scanB b' = b2 := ⟨_, rfl⟩
      rw [hb2] at hbx HD HVV HRR HSS
      clear hb2
      have hgw2 := hbx.lt
      obtain ⟨-, vr, vi, vs, h1, h2⟩ := hbx
      obtain ⟨⟨c0, c1, c2, c3⟩, -⟩ := cells4 h1
      have HR2 := hide h2
      have HSRT := hide (fun z (hz : Below w2.heap.size w2 z) => isorted_any vi b2.items z ((h2.i.keep hz).itms) (by have := HVV.out.itl; omega) HVV.out.nodup)
      have S0 : Hid (w2.drew.cell? ⟨g, 2, none⟩ = some vi ∧ w2.drew.cell? ⟨g, 3, none⟩ = some vs) := ⟨c2, c3⟩
      obtain ⟨ia, ic, rfl, -⟩ := own_slc h2.i
      obtain ⟨sa, sc, rfl, -⟩ := own_slc h2.s
      have HB1 := hide h1
      have hsz2 := H2.out.size
      have hBw : B ≤ w2.heap.size := by omega
      clear h1 h2
      have HDR : Hid (∀ z w3 v', Below w2.heap.size w2 z → OwnI z.heap.size w3 v' (ordL b2.items) → Below z.heap.size z w3 → Calls Try.prog 55 #[v', .slice sa b2.side.length sc] w3 fun e w' => ∃ v', e = .returned v' ∧ OwnI z.heap.size w' v' (ordL b2.rows) ∧ Below z.heap.size z w') := fun z w3 v' hz ho hb => by
        have h := drain_any z w3 v' _ (ordL b2.items) b2.side hb ho (HR2.out.s.keep hz).rows (ordL_spec _).1 (by rw [ordL_len_eq HVV.out.nodup]; have := HVV.out.itl; omega) (by rw [HSS.out]; exact HSL.out) (fun m hm => (HVV.out.sd m hm).2.1)
        rw [HD.out] at h
        exact h
      have hdr : Below w2.heap.size w2 w2.drew := (Below.refl _ _).drew
      have HDW := hide hdr
      clear hdr
      go_wp2_with fail
      go_region_held3 (fun w' => w'.cell? ⟨g, 2, none⟩ = some (.slice ia b2.items.length ic) ∧ w'.cell? ⟨g, 3, none⟩ = some (.slice sa b2.side.length sc)) (first | exact S0.out | exact S1.out | exact S2.out) (first
        | (go_at_call 41; (with_reducible refine (HSRT.out _ HDW.out).mono ?_); rintro e w3 ⟨v3, rfl, ho, hb⟩; have HO3 := hide ho; have HB3 := hide hb; have X3 := hide (blk_own hb (blk_own HDW.out HB1.out)); have S1 : Hid (w3.cell? ⟨g, 2, none⟩ = some (.slice ia b2.items.length ic) ∧ w3.cell? ⟨g, 3, none⟩ = some (.slice sa b2.side.length sc)) := ⟨cell_block X3.out 2, cell_block X3.out 3⟩; clear ho hb)
        | (go_at_call 55; (with_reducible refine (HDR.out _ w3 v3 HDW.out HO3.out HB3.out).mono ?_); rintro e w4 ⟨v4, rfl, ho, hb⟩; have HO4 := hide ho; have HB4 := hide hb; have X4 := hide (blk_own hb (blk_own HDW.out HB1.out)); have S2 : Hid (w4.cell? ⟨g, 2, none⟩ = some (.slice ia b2.items.length ic) ∧ w4.cell? ⟨g, 3, none⟩ = some (.slice sa b2.side.length sc)) := ⟨cell_block X4.out 2, cell_block X4.out 3⟩; clear ho hb))
      all_goals
        have H4 : Hid (Below B w w4) := H2.out.trans ((HDW.out.mono hBw).trans (HB4.out.mono hBw))
        have HOF : Hid (OwnI B w4 v4 (ordL b.rows)) := by rw [← HRR.out]; exact own_mono HO4.out hBw
        clear S0 S1 S2 HO3 HB3 X3 HO4 HB4 X4
        go_wp2_with fail
        go_ret
        exact ⟨v4, rfl, HOF.out, H4.out⟩
set_option maxHeartbeats 8000000 in
theorem iBuildOnline_any (v u : Value) (l : List Itm) (ms : List RMove) (w : World) (h : Itms w v l) (h' : Moves w u ms) :
    Calls Try.prog 30 #[v, u] w (ItsRet w (BldOf l ms)) := by
  have HV := hide (runBuild_any v u l ms w h h')
  obtain ⟨a, cap, rfl, -⟩ := h
  obtain ⟨ua, uc, rfl, -⟩ := h'
  go_enter Try.func30, Try.ntmps30
  go_wp2_with fail
  refine HV.out.mono ?_
  rintro e w1 ⟨hb, ⟨hp, g, rfl, hbx⟩ | ⟨hp, rfl⟩⟩
  · have H1 := hide hb
    have HP := hide hp
    have HE := hide (bsAt_rows l ms ms.length (Nat.le_refl _))
    have hle := rows_len hp ms.length (Nat.le_refl _)
    have hsd := (side_len l ms ms.length (Nat.le_refl _)).1
    have hm16 := hp.1.2
    have HF := hide (finish_any w.heap.size g _ w1 hbx (hp.inv _ (Nat.le_refl _)) (by rw [HE.out]; omega) (by omega))
    clear hb hp HV hle hsd hm16 hbx
    go_wp2_with fail
    refine HF.out.mono ?_
    rintro e w2 ⟨v', rfl, ho, hb⟩
    have H2 : Hid (Below w.heap.size w w2) := H1.out.trans hb
    rw [HE.out] at ho
    have HO := hide ho
    clear hb ho HF
    go_wp2_with fail
    go_ret
    exact ⟨v', _, rfl, ⟨fun _ => rfl, fun h => absurd HP.out h⟩, HO.out, H2.out⟩
  · have H1 := hide hb
    have HN := hide hp
    clear hb hp HV
    go_wp2_with fail
    go_ret
    exact ⟨_, [], rfl, ⟨fun h => absurd h HN.out, fun _ => rfl⟩, World.ownsRow_nil _ _ _ _, H1.out⟩
def BlRet (w : World) (p : Bool → Prop) (e : Ending) (w' : World) : Prop := ∃ r, e = .returned (.bool r) ∧ p r ∧ Below w.heap.size w w'
def InRet (w : World) (p : Int → Prop) (e : Ending) (w' : World) : Prop := ∃ r, e = .returned (.int .i64 r) ∧ p r ∧ Below w.heap.size w w'
set_option maxHeartbeats 8000000 in
theorem iCanBeUnique_any (v u : Value) (l : List Itm) (ms : List RMove) (w : World) (h : Itms w v l) (h' : Moves w u ms) :
    Calls Try.prog 33 #[v, u] w (BlRet w (CanOf l ms)) := by
  have HV := hide (runBuild_any v u l ms w h h')
  obtain ⟨a, cap, rfl, -⟩ := h
  obtain ⟨ua, uc, rfl, -⟩ := h'
  go_enter Try.func33, Try.ntmps33
  go_wp2_with fail
  refine HV.out.mono ?_
  rintro e w1 ⟨hb, ⟨hp, g, rfl, hbx⟩ | ⟨hp, rfl⟩⟩
  · have H1 := hide hb
    have HP := hide hp
    have HE := hide (bsAt_rows l ms ms.length (Nat.le_refl _))
    have hle := rows_len hp ms.length (Nat.le_refl _)
    have hsd := (side_len l ms ms.length (Nat.le_refl _)).1
    have hm16 := hp.1.2
    have HF := hide (finish_any w.heap.size g _ w1 hbx (hp.inv _ (Nat.le_refl _)) (by rw [HE.out]; omega) (by omega))
    clear hb hp HV hle hsd hm16 hbx
    go_wp2_with fail
    refine HF.out.mono ?_
    rintro e w2 ⟨v', rfl, ho, hb⟩
    have H2 : Hid (Below w.heap.size w w2) := H1.out.trans hb
    rw [HE.out] at ho
    have HFD := hide (firstDouble_any v' _ w2 ho.itms)
    clear hb ho HF
    go_wp2_with fail
    refine HFD.out.mono ?_
    rintro e w3 ⟨n, rfl, hd, hb⟩
    have H3 : Hid (Below w.heap.size w w3) := H2.out.trans (hb.mono H2.out.size)
    have HN := hide (dbl_neg hd (ok_ordL (HP.out.ok _ (Nat.le_refl _))))
    clear hb hd HFD
    by_cases hn : n < 0
    · have dn : decide (n < 0) = true := decide_eq_true hn
      have HR : Hid (CanOf l ms true) := ⟨fun _ => ⟨HP.out, HN.out.1 hn⟩, fun _ => rfl⟩
      clear hn
      go_wp2_with fail
      go_ret
      exact ⟨true, rfl, HR.out, H3.out⟩
    · have dn : decide (n < 0) = false := decide_eq_false hn
      have HR : Hid (CanOf l ms false) := ⟨fun h => (by cases h), fun h => absurd (HN.out.2 h.2) hn⟩
      clear hn
      go_wp2_with fail
      go_ret
      exact ⟨false, rfl, HR.out, H3.out⟩
  · have H1 := hide hb
    have HR : Hid (CanOf l ms false) := ⟨fun h => (by cases h), fun h => absurd h.1 hp⟩
    clear hb hp HV
    go_wp2_with fail
    go_ret
    exact ⟨false, rfl, HR.out, H1.out⟩
end Go.Proofs.Ytppbmhlmbepneaa
