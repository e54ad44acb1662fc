/-
  flat, validTree and leafOf of the specification.
-/
import Derived.Test.YtmlphdniiiijpaaTreeI
set_option linter.all false
namespace Go.Proofs.Ytmlphdniiiijpaa
open Go.RowKit
set_option maxHeartbeats 16000000 in
set_option maxRecDepth 100000 in
theorem sflat_any (v : Value) (t : List (List Itm)) (w : World) (h : Lvs w v t) (hn : (flatT t).length ≤ 1048576) :
    Calls Try.prog 46 #[.agg #[v]] w (ItRet w (flatT t)) := by
  obtain ⟨a, cap, rfl, hl, hcap, hd⟩ := h
  have HX0 := hide (blk_keep (blk_alloc w (.cells #[.slice a t.length cap] 25)) (.cells #[] 38))
  have HB0 := hide (below_box2 w (.cells #[.slice a t.length cap] 25) (.cells #[] 38))
  have HO0 : Hid (OwnI (w.heap.size + 1) ((w.alloc (.cells #[.slice a t.length cap] 25)).alloc (.cells #[] 38)) (.slice (some ⟨w.heap.size + 1, 0, none⟩) 0 0) []) := own_lit_at (by simp) (by simp)
  go_enter Try.func46, Try.ntmps46
  go_wp2_with fail
  go_loopg [3, 4] t.length (fun gq s3 s4 wq => Below w.heap.size w wq ∧ wq.heap[w.heap.size]? = some (.cells #[.slice a t.length cap] 25 (0, 0)) ∧ ∃ k : Nat, k + gq = t.length ∧ s4 = .int .i64 (k : Int) ∧ OwnI (w.heap.size + 1) wq s3 (flatT (t.take k)))
  case atStart => exact ⟨HB0.out, HX0.out, 0, by omega, rfl, by simpa [flatT] using HO0.out⟩
  case round =>
    clear HB0 HX0 HO0
    obtain ⟨hbw, hbx, k, hk, rfl, hown⟩ := hrel
    have HW := hide hbw
    have HO := hide hown
    have HX := hide hbx
    have hbs := lt_block hbx
    have c0 := cell_block hbx 0
    clear hown hbx
    by_cases hlt : k < t.length
    · obtain ⟨b, off, rfl, hbb, hcell⟩ := hd.resolve_left (by rintro rfl; simp at hlt)
      obtain ⟨lv, e0, hlv, hnl⟩ := hcell k hlt
      have e0 := (hbw.cell hbb).trans e0
      have HL := hide (hlv.keep hbw)
      have HNL := hide hnl
      have HT := hide (flatT_take hlt)
      have hll := leaf_len hlt
      have hfl := flatT_take_len t k
      obtain ⟨la, lc, rfl⟩ := itms_shape hlv
      clear hcell hd hbw hlv hnl
      have hws := HW.out.size
      generalize t[k] = f at *
      obtain ⟨L1, hL1⟩ : ∃ L1, flatT (t.take (k + 1)) = L1 := ⟨_, rfl⟩
      obtain ⟨L0, hL0⟩ : ∃ L0, flatT (t.take k) = L0 := ⟨_, rfl⟩
      have HL1 := hide hL1
      rw [hL0, hL1] at HT
      rw [hL0] at HO hfl
      clear hL1 hL0
      go_wp2_with (at_builtin; refine wpList_appI rfl (.tmp 13) (.tmp 18) rfl (w.heap.size + 1) _ L0 rfl HO.out (by omega) _ f rfl HL.out HNL.out (by omega) (by omega) ?next)
      case next =>
        intro v8 w8 ho hg
        have H8 : Hid (Below w.heap.size w w8) := HW.out.grown hg hws (fun q hq => by have := (World.ownsRow.lt HO.out q hq).1; omega)
        have HX8 : Hid (w8.heap[w.heap.size]? = some (.cells #[.slice (some ⟨b, off, none⟩) t.length cap] 25 (0, 0))) := (hg.block w.heap.size hbs (fun hq => by have := (World.ownsRow.lt HO.out _ hq.symm).1; omega)).trans HX.out
        rw [← HT.out] at ho
        have HO8 := hide ho
        clear ho hg
        go_wp2_with fail
        go_roundg (gk - 1)
        case measure => omega
        case rel => exact ⟨H8.out, HX8.out, k + 1, by omega, by go_num, by rw [HL1.out]; exact HO8.out⟩
    · have hkl : k = t.length := by omega
      subst hkl
      rw [List.take_length] at HO
      obtain ⟨ra, rc, rfl, -⟩ := own_slc HO.out
      clear hd hbw
      go_wp2_with fail
      go_ret
      exact ⟨_, rfl, own_mono HO.out (by omega), HW.out⟩
set_option maxHeartbeats 16000000 in
set_option maxRecDepth 100000 in
theorem svalidTree_any (v : Value) (t : List (List Itm)) (w : World) (h : Lvs w v t) (hn : (flatT t).length ≤ 1048576) :
    Calls Try.prog 42 #[.agg #[v]] w (BRet w (VT t)) := by
  have HLV := hide h
  obtain ⟨a, cap, rfl, hl, hcap, hd⟩ := h
  have HX0 := hide (blk_alloc w (.cells #[.slice a t.length cap] 25))
  have HB0 := hide (below_box w (.cells #[.slice a t.length cap] 25))
  go_enter Try.func42, Try.ntmps42
  obtain ⟨low, hlow, hlow2, htest⟩ : ∃ low : Nat, Hid (low = lowT t) ∧ low ≤ 2 ∧ ((((t.length : Int) == 1) = true ∧ low = 1) ∨ (((t.length : Int) == 1) = false ∧ low = 2)) := by
    by_cases h1 : t.length = 1
    · exact ⟨1, by unfold Hid lowT; rw [if_pos h1], by omega, .inl ⟨by simp [h1], rfl⟩⟩
    · exact ⟨2, by unfold Hid lowT; rw [if_neg h1], by omega, .inr ⟨beq_false_of_ne (by omega), rfl⟩⟩
  go_wp2_with fail
  go_loopg [3] t.length (fun gk s3 wr => Below w.heap.size w wr ∧ wr.heap[w.heap.size]? = some (.cells #[.slice a t.length cap] 25 (0, 0)) ∧ ∃ k : Nat, k + gk = t.length ∧ s3 = .int .i64 (k : Int) ∧ szF t k)
  case atStart => exact ⟨HB0.out, HX0.out, 0, by omega, rfl, fun j _ hj => by omega⟩
  case round =>
    clear HB0 HX0
    obtain ⟨hbw, hbx, k, hk, rfl, hP⟩ := hrel
    have HW := hide hbw
    have HX := hide hbx
    have HP := hide hP
    have hbs := lt_block hbx
    have c0 := cell_block hbx 0
    clear hP hbx
    by_cases hlt : k < t.length
    · obtain ⟨b, off, rfl, hbb, hcell⟩ := hd.resolve_left (by rintro rfl; simp at hlt)
      obtain ⟨lv, e0, hlv, -⟩ := hcell k hlt
      have e0 := (hbw.cell hbb).trans e0
      obtain ⟨la, lc, rfl⟩ := itms_shape hlv
      have HS := hide (fun q => szF_s HP.out hlt q)
      have HBAD := hide (fun q => szF_bad (t := t) hlt q)
      rw [← hlow.out] at HS HBAD
      clear hcell hd hbw hlv
      obtain ⟨n, hnn⟩ : ∃ n, t[k].length = n := ⟨_, rfl⟩
      rw [hnn] at e0 HS HBAD
      clear hnn
      have HR := hide (inRange_any (n : Int) (low : Int) 4 wr)
      have HBLW := hide (fun z hz => blk_own (W := wr) (w1 := z) hz HX.out)
      by_cases hq : low ≤ n ∧ n ≤ 4
      · have HN := hide (HS.out hq)
        have dq : decide ((low : Int) ≤ (n : Int) ∧ (n : Int) ≤ 4) = true := decide_eq_true (by omega)
        rw [dq] at HR
        clear hq dq HBAD
        rcases htest with ⟨ht, rfl⟩ | ⟨ht, rfl⟩
        all_goals
          go_wp2_with fail
          refine HR.out.mono ?_
          rintro e w2 ⟨rfl, rfl⟩
          go_wp2_with fail
          go_roundg (gk - 1)
          case measure => omega
          case rel => exact ⟨HW.out, HX.out, k + 1, by omega, by go_num, HN.out⟩
      · have HN := hide (HBAD.out hq)
        have dq : decide ((low : Int) ≤ (n : Int) ∧ (n : Int) ≤ 4) = false := decide_eq_false (by omega)
        rw [dq] at HR
        clear hq dq HS
        rcases htest with ⟨ht, rfl⟩ | ⟨ht, rfl⟩
        all_goals
          go_wp2_with fail
          refine HR.out.mono ?_
          rintro e w2 ⟨rfl, rfl⟩
          go_wp2_with fail
          go_ret
          exact bret_no HN.out HW.out
    · have hkl : k = t.length := by omega
      subst hkl
      have HFL := hide (sflat_any _ t wr (HLV.out.keep HW.out) hn)
      clear hd hbw htest
      by_cases ht30 : (t.length : Int) ≤ 30
      · have ht30' := hide ht30
        go_wp2_with fail
        refine HFL.out.mono ?_
        rintro e w2 ⟨v2, rfl, ho, hb⟩
        have H2 : Hid (Below w.heap.size w w2) := HW.out.trans (hb.mono HW.out.size)
        have HV := hide (svalidItems_any v2 _ w2 ho.itms)
        obtain ⟨va, vc, rfl, -⟩ := own_slc ho
        clear hb ho HFL
        go_wp2_with fail
        refine HV.out.mono ?_
        rintro e w3 ⟨q, rfl, hv, hb⟩
        have H3 : Hid (Below w.heap.size w w3) := H2.out.trans (hb.mono H2.out.size)
        have HQ : Hid (q = true ↔ VT t) := ⟨fun hq => VT_of HP.out (hv.1 hq).2 (hv.1 hq).1, fun h => hv.2 ⟨h.ord, h.n⟩⟩
        clear hb hv HV
        go_wp2_with fail
        go_ret
        exact ⟨q, rfl, HQ.out, H3.out⟩
      · have HN : Hid (¬ VT t) := fun h => by have := h.leaves; omega
        go_wp2_with fail
        go_ret
        exact bret_no HN.out HW.out
set_option maxHeartbeats 4000000 in
theorem sValidTree_any (v : Value) (t : List (List Itm)) (w : World) (h : Lvs w v t) (hn : (flatT t).length ≤ 1048576) :
    Calls Try.prog 15 #[.agg #[v]] w (BRet w (VT t)) := by
  have HLV := hide h
  obtain ⟨a, cap, rfl, -⟩ := h
  have HB0 := hide (below_box w (.cells #[.slice a t.length cap] 25))
  have HV := hide (svalidTree_any (.slice a t.length cap) t _ (HLV.out.keep HB0.out) hn)
  go_enter Try.func15, Try.ntmps15
  go_wp2_with fail
  refine HV.out.mono ?_
  rintro e w2 ⟨q, rfl, hv, hb⟩
  have H2 : Hid (Below w.heap.size w w2) := HB0.out.trans (hb.mono HB0.out.size)
  have HVV := hide hv
  clear hb hv HV
  go_wp2_with fail
  go_ret
  exact ⟨q, rfl, HVV.out, H2.out⟩
set_option maxHeartbeats 8000000 in
theorem streeItems_any (v : Value) (t : List (List Itm)) (w : World) (h : Lvs w v t) (hn : (flatT t).length ≤ 1048576) :
    Calls Try.prog 52 #[.agg #[v]] w (fun e w' => ∃ v' r, e = .returned v' ∧ TIOf t r ∧ OwnI w.heap.size w' v' r ∧ Below w.heap.size w w') := by
  have HLV := hide h
  obtain ⟨a, cap, rfl, -⟩ := h
  have HX0 := hide (blk_alloc w (.cells #[.slice a t.length cap] 25))
  have HB0 := hide (below_box w (.cells #[.slice a t.length cap] 25))
  have HV := hide (svalidTree_any (.slice a t.length cap) t _ (HLV.out.keep HB0.out) hn)
  go_enter Try.func52, Try.ntmps52
  go_wp2_with fail
  refine HV.out.mono ?_
  rintro e w2 ⟨q, rfl, hv, hb⟩
  have H2 : Hid (Below w.heap.size w w2) := HB0.out.trans (hb.mono HB0.out.size)
  have HX := hide (blk_own hb HX0.out)
  have HVV := hide hv
  have hbs := lt_block HX.out
  have c0 := cell_block HX.out 0
  have HCN := hide (sflat_any _ t w2 (HLV.out.keep H2.out) hn)
  clear hb hv HV HX0 HB0
  cases q with
  | false =>
    have HN : Hid (¬ VT t) := fun h => by have := HVV.out.2 h; cases this
    go_wp2_with fail
    go_ret
    exact ⟨_, [], rfl, ⟨fun h => absurd h HN.out, fun _ => rfl⟩, World.ownsRow_nil _ _ _ _, H2.out⟩
  | true =>
    have HY : Hid (VT t) := HVV.out.1 rfl
    go_wp2_with fail
    refine HCN.out.mono ?_
    rintro e w3 ⟨v3, rfl, ho, hb⟩
    have H3 : Hid (Below w.heap.size w w3) := H2.out.trans (hb.mono H2.out.size)
    have HO : Hid (OwnI w.heap.size w3 v3 (flatT t)) := own_mono ho H2.out.size
    clear hb ho HCN
    go_wp2_with fail
    go_ret
    exact ⟨v3, _, rfl, ⟨fun _ => rfl, fun h => absurd HY.out h⟩, HO.out, H3.out⟩
theorem leafAt_one {t : List (List Itm)} (x : Itm) : leafAt t x 1 = 0 := by
  have := leafAt_le t x 1; omega
theorem leafAt_zero' {t : List (List Itm)} {x : Itm} {k m : Nat} (hk : 1 ≤ k) (hm : m = leafAt t x k) (h : headLE t x k = true) : k = leafAt t x (k + 1) := by
  rw [leafAt, if_pos h]
set_option maxHeartbeats 8000000 in
theorem leafOf_any (v : Value) (t : List (List Itm)) (x : Itm) (w : World) (h : Lvs w v t) (hne : ∀ f ∈ t, 1 ≤ f.length) (h0 : 0 < t.length) :
    Calls Try.prog 59 #[.agg #[v], .agg #[.int .i64 x.k, .int .i64 x.r]] w fun e w' => e = .returned (.int .i64 ((leafAt t x t.length : Nat) : Int)) ∧ Below w.heap.size w w' := by
  obtain ⟨a, cap, rfl, hl, hcap, hd⟩ := h
  obtain ⟨R, hR⟩ : ∃ R, R = leafAt t x t.length := ⟨_, rfl⟩
  rw [← hR]
  have HR := hide hR
  clear hR
  have HB0 := hide (below_box2 w (.cells #[.slice a t.length cap] 25) (.cells #[.int .i64 x.k, .int .i64 x.r] 38))
  have HT0 := hide (blk_keep (blk_alloc w (.cells #[.slice a t.length cap] 25)) (.cells #[.int .i64 x.k, .int .i64 x.r] 38))
  have HX0 := hide (blk_at (W := w.alloc (.cells #[.slice a t.length cap] 25)) (b := w.heap.size + 1) (by simp) (.cells #[.int .i64 x.k, .int .i64 x.r] 38))
  go_enter Try.func59, Try.ntmps59
  go_wp2_with fail
  go_loopg [5, 6] (t.length - 1) (fun gk s5 s6 wr => Below w.heap.size w wr ∧ wr.heap[w.heap.size]? = some (.cells #[.slice a t.length cap] 25 (0, 0)) ∧ wr.heap[w.heap.size + 1]? = some (.cells #[.int .i64 x.k, .int .i64 x.r] 38 (0, 0)) ∧ ∃ k m : Nat, k + gk = t.length ∧ 1 ≤ k ∧ s5 = .int .i64 (m : Int) ∧ s6 = .int .i64 (k : Int) ∧ m ≤ k ∧ Hid (m = leafAt t x k))
  case atStart => exact ⟨HB0.out, HT0.out, HX0.out, 1, 0, by omega, by omega, rfl, rfl, by omega, hide (leafAt_one x).symm⟩
  case round =>
    clear HB0 HX0 HT0
    obtain ⟨hbw, hbt, hbx, k, m, hk, hk1, rfl, rfl, hmk, hm⟩ := hrel
    have HW := hide hbw
    have HX := hide hbx
    have HT := hide hbt
    have hbs := lt_block hbx
    have hbs0 := lt_block hbt
    have c0 := cell_block hbt 0
    clear hbx hbt
    by_cases hlt : k < t.length
    · obtain ⟨b, off, rfl, hbb, hcell⟩ := hd.resolve_left (by rintro rfl; simp at hlt)
      obtain ⟨lv, e0, hlv, -⟩ := hcell k hlt
      have e0 := (hbw.cell hbb).trans e0
      have h1 : 0 < t[k].length := hne _ (List.getElem_mem hlt)
      have HE := hide (headLE_at (x := x) hlt h1)
      have hlv := hlv.keep hbw
      have hbb' : b < wr.heap.size := Nat.lt_of_lt_of_le hbb hbw.size
      obtain ⟨la, lc, rfl, h2, h3, hld⟩ := hlv
      obtain ⟨lb, lo, rfl, hlb, hlc⟩ := hld.resolve_left (by intro e; rw [e] at h1; simp at h1)
      have E := hide (hlc 0 h1)
      clear hcell hd hbw hld hlc
      rw [Nat.zero_mul, Nat.add_zero] at E
      generalize t[k][0] = y at *
      obtain ⟨n, hn⟩ : ∃ n, t[k].length = n := ⟨_, rfl⟩
      rw [hn] at e0 h1 h2
      clear hn
      have g0 := fun z : BW wr => bw_cell (p := ⟨lb, lo, none⟩) hlb E.out.1 z
      have g1 := fun z : BW wr => bw_cell (p := ⟨lb, lo + 1, none⟩) hlb E.out.2 z
      have g2 := fun z : BW wr => bw_cell (p := ⟨w.heap.size + 1, 0, none⟩) hbs (cell_block HX.out 0) z
      have g3 := fun z : BW wr => bw_cell (p := ⟨w.heap.size + 1, 1, none⟩) hbs (cell_block HX.out 1) z
      have g4 := fun z : BW wr => bw_cell (p := ⟨w.heap.size, 0, none⟩) hbs0 (cell_block HT.out 0) z
      have g5 := fun z : BW wr => bw_cell (p := ⟨b, off + k, none⟩) hbb' e0 z
      have CC := hide (fun z : World => slessItem_any x y z)
      have HLA : Hid (leafAt t x (k + 1) = if headLE t x k then k else leafAt t x k) := rfl
      cases hq : lessI x y with
      | false =>
        have HN : Hid (k = leafAt t x (k + 1)) := by unfold Hid; rw [HLA.out, HE.out, hq]; simp
        rw [hq] at CC
        clear hq HLA HE
        go_wp2_with fail
        refine wp_region_bw (by kernel_rfl) (by kernel_rfl) ?_
        repeat (go_big_quiet_step (first | (go_at_call 72; with_reducible exact bw_of (CC.out _))))
        refine wpQuiet_nil ?_
        rintro _ ⟨z, rfl⟩
        have H1 : Hid (Below w.heap.size w z.v) := HW.out.trans (z.h.mono HW.out.size)
        have HX1 := hide (bw_blk HX.out z)
        have HT1 := hide (bw_blk HT.out z)
        clear g0 g1 g2 g3 g4 g5 CC
        go_wp2_with fail
        go_roundg (gk - 1)
        case measure => omega
        case rel => exact ⟨H1.out, HT1.out, HX1.out, k + 1, k, by omega, by omega, rfl, by go_num, by omega, HN.out⟩
      | true =>
        have HN : Hid (m = leafAt t x (k + 1)) := by unfold Hid; rw [HLA.out, HE.out, hq]; simpa using hm.out
        rw [hq] at CC
        clear hq HLA HE
        go_wp2_with fail
        refine wp_region_bw (by kernel_rfl) (by kernel_rfl) ?_
        repeat (go_big_quiet_step (first | (go_at_call 72; with_reducible exact bw_of (CC.out _))))
        refine wpQuiet_nil ?_
        rintro _ ⟨z, rfl⟩
        have H1 : Hid (Below w.heap.size w z.v) := HW.out.trans (z.h.mono HW.out.size)
        have HX1 := hide (bw_blk HX.out z)
        have HT1 := hide (bw_blk HT.out z)
        clear g0 g1 g2 g3 g4 g5 CC
        go_wp2_with fail
        go_roundg (gk - 1)
        case measure => omega
        case rel => exact ⟨H1.out, HT1.out, HX1.out, k + 1, m, by omega, by omega, rfl, by go_num, by omega, HN.out⟩
    · have hkl : k = t.length := by omega
      subst hkl
      clear hd hbw
      go_wp2_with fail
      go_ret
      exact ⟨by rw [HR.out, ← hm.out]; rfl, HW.out⟩
end Go.Proofs.Ytmlphdniiiijpaa
