/-
  ReadRow of the program and of the specification.
-/
import Derived.Test.YtdijcdadcbhipaaDoorFPl4
import Derived.Test.YtdijcdadcbhipaaDoorFCc
import Derived.Test.YtdijcdadcbhipaaDoorFSr
set_option linter.all false
namespace Go.Proofs.YtdijcdadcbhipaaDoor
open Go.RowKit
theorem RRet.trans {w w1 w' : World} {o : Option (List RVal)} {e : Ending} (hb : Below w.heap.size w w1) (h : RRet w1 o e w') : RRet w o e w' := by
  obtain ⟨h1, h2⟩ := h
  refine ⟨hb.trans (h1.mono hb.size), ?_⟩
  cases o with
  | none => exact h2
  | some g =>
    obtain ⟨v', h3, h4⟩ := h2
    exact ⟨v', h3, OwnR.mono h4 hb.size⟩
set_option maxHeartbeats 16000000 in
set_option maxRecDepth 100000 in
theorem iRead_any (v u x : Value) (f : List RCol) (cs : List RChg) (i j : Int) (r : List RVal) (w : World) (h : Recs cEnc 4 w v f) (h' : Recs hEnc 6 w u cs) (hx : Recs vEnc 3 w x r) (ht : Tab w) :
    Calls Tryd.prog 49 #[v, u, .int .i64 i, .int .i64 j, x] w (RRet w (readL f cs i j r)) := by
  obtain ⟨R, hR⟩ : ∃ R, R = readL f cs i j r := ⟨_, rfl⟩
  rw [← hR]
  have HCH := hide (iChain_any v u f cs w h h' ht)
  have HX := hide hx
  have HU := hide h'
  obtain ⟨av, cv, rfl, -, -⟩ := h.shape
  obtain ⟨au, cu, rfl, hlu, hcu, -, hd⟩ := h'
  obtain ⟨ax, cx, rfl, -, -⟩ := hx.shape
  clear h hx
  have HRR := hide hR
  clear hR
  cases hch : chainL f cs with
  | none =>
    have HR : Hid (R = none) := by unfold Hid; rw [HRR.out]; unfold readL; rw [hch]
    rw [hch] at HCH
    clear HRR hch hd
    go_enter Tryd.func49, Tryd.ntmps49
    go_wp2_with fail
    with_reducible refine HCH.out.mono ?_
    rintro e w1 ⟨hb1, hq⟩
    have H1 := hide hb1
    obtain rfl := hq
    clear hb1
    go_wp2_with fail
    all_goals go_tidy
    exact ⟨rfl, .tuple #[.slice none 0 0, .bool false], by simp [results, Tryd.results49, go_sem], H1.out, by rw [HR.out]⟩
  | some L =>
    rw [hch] at HCH
    have HLL := hide (chain_len hch)
    by_cases hi0 : i < 0
    · have HR : Hid (R = none) := by unfold Hid; rw [HRR.out]; unfold readL; rw [hch]; simp only; rw [if_neg (by omega)]
      clear HRR hch hd
      go_enter Tryd.func49, Tryd.ntmps49
      go_wp2_with fail
      with_reducible refine HCH.out.mono ?_
      rintro e w1 ⟨hb1, v1, rfl, ho1⟩
      have H1 := hide hb1
      obtain ⟨aL, cL, rfl, -, -⟩ := ownL_slc ho1
      clear hb1 ho1
      go_wp2_with fail
      all_goals go_tidy
      exact ⟨rfl, .tuple #[.slice none 0 0, .bool false], by simp [results, Tryd.results49, go_sem], H1.out, by rw [HR.out]⟩
    by_cases hij : j < i
    · have HR : Hid (R = none) := by unfold Hid; rw [HRR.out]; unfold readL; rw [hch]; simp only; rw [if_neg (by omega)]
      clear HRR hch hd
      go_enter Tryd.func49, Tryd.ntmps49
      go_wp2_with fail
      with_reducible refine HCH.out.mono ?_
      rintro e w1 ⟨hb1, v1, rfl, ho1⟩
      have H1 := hide hb1
      obtain ⟨aL, cL, rfl, -, -⟩ := ownL_slc ho1
      clear hb1 ho1
      go_wp2_with fail
      all_goals go_tidy
      exact ⟨rfl, .tuple #[.slice none 0 0, .bool false], by simp [results, Tryd.results49, go_sem], H1.out, by rw [HR.out]⟩
    by_cases hjl : (L.length : Int) ≤ j
    · have HR : Hid (R = none) := by unfold Hid; rw [HRR.out]; unfold readL; rw [hch]; simp only; rw [if_neg (by have := HLL.out; omega)]
      clear HRR hch hd
      go_enter Tryd.func49, Tryd.ntmps49
      go_wp2_with fail
      with_reducible refine HCH.out.mono ?_
      rintro e w1 ⟨hb1, v1, rfl, ho1⟩
      have H1 := hide hb1
      obtain ⟨aL, cL, rfl, -, -⟩ := ownL_slc ho1
      clear hb1 ho1
      go_wp2_with fail
      all_goals go_tidy
      exact ⟨rfl, .tuple #[.slice none 0 0, .bool false], by simp [results, Tryd.results49, go_sem], H1.out, by rw [HR.out]⟩
    obtain ⟨A, rfl⟩ : ∃ A : Nat, i = (A : Int) := ⟨i.toNat, by omega⟩
    obtain ⟨N, rfl⟩ : ∃ N : Nat, j = ((A + N : Nat) : Int) := ⟨(j - A).toNat, by omega⟩
    have hAN : A + N < L.length := by omega
    have hA : A < L.length := by omega
    have hLp : 1 ≤ L.length := by omega
    have HFE : Hid (L[(A : Int).toNat]?.getD [] = L[A]) := by unfold Hid; rw [Int.toNat_natCast, List.getElem?_eq_getElem hA]; rfl
    cases hft : fitB L[A] r with
    | false =>
      have HR : Hid (R = none) := by unfold Hid; rw [HRR.out]; unfold readL; rw [hch]; simp only; rw [if_neg (by rw [HFE.out, hft]; simp)]
      clear HRR hch hd HFE
      go_enter Tryd.func49, Tryd.ntmps49
      go_wp2_with fail
      with_reducible refine HCH.out.mono ?_
      rintro e w1 ⟨hb1, v1, rfl, ho1⟩
      have H1 := hide hb1
      obtain ⟨bL, cL, rfl, -, -, hcell⟩ := ho1.rows hLp
      obtain ⟨a0, n0, l0, r0⟩ := hcell w1 (Below.refl _ _) A hA
      have HX1 := hide (HX.out.keep hb1)
      have HFF := hide (iRowFits_any _ _ _ r w1 r0 HX1.out)
      rw [hft] at HFF
      clear hb1 ho1 hcell r0 hft
      generalize L[A] = gA at *
      go_wp2_with fail
      with_reducible refine HFF.out.mono ?_
      rintro e w2 ⟨rfl, hb2⟩
      have H2 := hide (H1.out.trans (hb2.mono H1.out.size))
      clear hb2
      go_wp2_with fail
      all_goals go_tidy
      exact ⟨rfl, .tuple #[.slice none 0 0, .bool false], by simp [results, Tryd.results49, go_sem], H2.out, by rw [HR.out]⟩
    | true =>
      have HR : Hid (R = some (advL r ((cs.drop A).take N))) := by
        unfold Hid; rw [HRR.out]; unfold readL; rw [hch]; simp only
        rw [if_pos ⟨by omega, by omega, by have := HLL.out; omega, by rw [HFE.out, hft]⟩, Int.toNat_natCast, Int.toNat_natCast, Nat.add_sub_cancel_left]
      have HADV := hide (fun k h1 h2 => chR_adv hch A r hA hft k h1 h2)
      have HRL := hide ((fit_of hft).2.1)
      have hr5 : r.length ≤ 5 := (fit_of hft).2.1
      clear HRR hch HFE
      go_enter Tryd.func49, Tryd.ntmps49
      go_wp2_with fail
      with_reducible refine HCH.out.mono ?_
      rintro e w1 ⟨hb1, v1, rfl, ho1⟩
      have H1 := hide hb1
      obtain ⟨bL, cL, rfl, -, -, hcell⟩ := ho1.rows hLp
      have HCELL := hide hcell
      obtain ⟨a0, n0, l0, r0⟩ := hcell w1 (Below.refl _ _) A hA
      have HX1 := hide (HX.out.keep hb1)
      have HFF := hide (iRowFits_any _ _ _ r w1 r0 HX1.out)
      rw [hft] at HFF
      clear hb1 ho1 hcell r0 hft
      obtain ⟨gA, hgA⟩ : ∃ gA, L[A] = gA := ⟨_, rfl⟩
      rw [hgA] at HFF l0
      clear hgA
      go_wp2_with fail
      with_reducible refine HFF.out.mono ?_
      rintro e w2 ⟨rfl, hb2⟩
      have H2 := hide (H1.out.trans (hb2.mono H1.out.size))
      have Z2 := hide hb2
      have HX2 := hide (HX1.out.keep hb2)
      clear hb2 l0 HFF
      go_wp2_with fail
      with_reducible refine (cloneV_any _ r _ HX2.out (by omega)).mono ?_
      rintro e w3 ⟨v3, rfl, ho3, hb3⟩
      have H3 := hide (H2.out.trans (hb3.mono H2.out.size))
      have Z3 := hide (Z2.out.trans (hb3.mono Z2.out.size))
      have O3 : Hid (OwnV w.heap.size w3 v3 r) := OwnR.mono ho3 H2.out.size
      clear hb3 ho3
      go_wp2_with fail
      go_loopg [13, 14, 15] N (fun gk s13 s14 s15 wr => s13 = .bool true ∧ Below w.heap.size w wr ∧ Below w1.heap.size w1 wr ∧ ∃ k : Nat, k + gk = N ∧ s15 = .int .i64 ((A + k : Nat) : Int) ∧ OwnV w.heap.size wr s14 (advL r ((cs.drop A).take k)))
      case atStart => exact ⟨rfl, H3.out, Z3.out, 0, by omega, rfl, by rw [seg_zero]; exact O3.out⟩
      case round =>
        clear O3 H3 Z3 HX1 HX2 H2 Z2 H1
        obtain ⟨rfl, hbw, hbz, k, hk, rfl, hown⟩ := hrel
        have HW := hide hbw
        have HZ := hide hbz
        have HOW := hide hown
        by_cases hlt : k < N
        · have hkc : A + k < cs.length := by have := HLL.out; omega
          have hkL : A + k < L.length := by omega
          have hcmp : ((A + k : Nat) : Int) < ((A + N : Nat) : Int) := by omega
          obtain ⟨b, off, rfl, hbb, hcell⟩ := hd.resolve_left (by rintro rfl; simp at hkc)
          have e := at6 (fun j u hu => (hbw.cell (p := ⟨b, _, none⟩) hbb).trans (hcell (A + k) hkc j u hu))
          obtain ⟨al, nl, l0, r0⟩ := HCELL.out wr hbz (A + k) hkL
          have hst := HADV.out k hkc hkL
          obtain ⟨gL, hgL⟩ : ∃ gL, L[A + k] = gL := ⟨_, rfl⟩
          obtain ⟨c, hc⟩ : ∃ c, cs[A + k] = c := ⟨_, rfl⟩
          obtain ⟨y, hy⟩ : ∃ y, advL r ((cs.drop A).take k) = y := ⟨_, rfl⟩
          obtain ⟨y2, hy2⟩ : ∃ y, advL r ((cs.drop A).take (k + 1)) = y := ⟨_, rfl⟩
          rw [hgL, hc, hy, hy2] at hst
          rw [hgL] at l0 r0
          rw [hc] at e
          rw [hy] at hown HOW
          have HY2 := hide hy2
          obtain ⟨ra, rn, rfl, -, -⟩ := own_slc hown
          have HIC : Hid (∀ W, Below wr.heap.size wr W → Calls Tryd.prog 32 #[.slice al gL.length nl, .slice ra y.length rn, (.agg #[.int .i64 c.k, .int .i64 c.a, .int .i64 c.c.k, .int .i64 c.c.d.k, .int .i64 c.c.d.n, .string c.c.d.s])] W (RRet wr (some y2))) := fun W hW => by
            have := iRow_any c _ _ gL y W (r0.keep hW) ((OwnR.recs vEnc_len HOW.out).keep hW) (ht.keep (HW.out.trans (hW.mono HW.out.size)))
            rw [hst] at this
            exact this.mono fun e w' hq => RRet.trans hW hq
          have ZR := hide (Below.refl wr.heap.size wr)
          obtain ⟨e0, e1, e2, e3, e4, e5⟩ := e
          obtain ⟨m, hm⟩ : ∃ m : Nat, A + k = m := ⟨_, rfl⟩
          have HM := hide hm
          rw [hm] at e0 e1 e2 e3 e4 e5 l0 hcmp hkc hkL ⊢
          clear hd hcell hbw hbz hown hst hy hy2 hgL hc r0 hm
          go_upto_region 8 with fail
          go_region_law (first
            | (go_simp; go_at_call 32; (with_reducible refine (HIC.out _ (by first | exact ZR.out | exact ZR.out.drew)).mono ?_); rintro e z1 ⟨hz1, v9, rfl, ho9⟩; (obtain ⟨a9, c9, rfl, -, -⟩ := own_slc ho9); (have Z1 := hide hz1); (have O9 : Hid (OwnV wr.heap.size z1 (.slice a9 y2.length c9) y2) := ho9); clear hz1 ho9)
            | fail)
          all_goals
            have H9 := hide (HW.out.trans (Z1.out.mono HW.out.size))
            have H8 := hide (HZ.out.trans (Z1.out.mono HZ.out.size))
            have O8 : Hid (OwnV w.heap.size z1 (.slice a9 y2.length c9) (advL r ((cs.drop A).take (k + 1)))) := by
              unfold Hid; rw [HY2.out]; exact OwnR.mono O9.out HW.out.size
            clear e0 e1 e2 e3 e4 e5 l0
            go_wp2_with fail
            go_roundg (gk - 1)
            case measure => omega
            case rel => exact ⟨rfl, H9.out, H8.out, k + 1, by omega, by have := HM.out; go_num, O8.out⟩
        · have hkl : k = N := by omega
          subst hkl
          have hcmp : ¬ (((A + k : Nat) : Int) < ((A + k : Nat) : Int)) := by omega
          obtain ⟨ra, rn, rfl, -, -⟩ := own_slc hown
          clear hd hbw hbz hown
          go_wp2_with fail
          all_goals go_tidy
          exact ⟨rfl, .tuple #[.slice ra (advL r ((cs.drop A).take k)).length rn, .bool true], by simp [results, Tryd.results49, go_sem], HW.out, by rw [HR.out]; exact ⟨_, rfl, HOW.out⟩⟩
set_option maxHeartbeats 8000000 in
set_option maxRecDepth 100000 in
theorem sAdv_any (v u : Value) (r : List RVal) (ds : List RChg) (G : Nat → List RCol) (w : World) (h : Recs vEnc 3 w v r) (h' : Recs hEnc 6 w u ds) (hr : r.length ≤ 5) (hG : ∀ k (hk : k < ds.length), fitB (G k) (advL r (ds.take k)) = true ∧ posB (G k) ds[k] = true) :
    Calls Tryd.prog 84 #[v, u] w fun e w' => ∃ v', e = .returned v' ∧ OwnV w.heap.size w' v' (advL r ds) ∧ Below w.heap.size w w' := by
  have HB := hide (below_box w (.cells #[] 25))
  have HX := hide (h.keep HB.out)
  have HO0 : Hid (OwnR vEnc 3 25 w.heap.size (w.alloc (.cells #[] 25)) (.slice (some ⟨w.heap.size, 0, none⟩) 0 0) []) := own_lit (Nat.le_refl _)
  obtain ⟨av, cv, rfl, -, -⟩ := h.shape
  obtain ⟨au, cu, rfl, hlu, hcu, -, hd⟩ := h'
  have HG := hide hG
  clear h hG
  go_enter Tryd.func84, Tryd.ntmps84
  go_wp2_with (at_builtin; refine wpList_appR (enc := vEnc) (k := 3) (by decide) vEnc_len vEnc_one rfl (.tmp 7) (.tmp 8) 56 25 rfl 32 (by decide) Tryd.underlying56 _ infoV rfl w.heap.size (.slice (some ⟨w.heap.size, 0, none⟩) 0 0) [] rfl HO0.out (by simp) _ r rfl HX.out (by omega) (by simp) ?_)
  intro v1 w1 ho1 hg1
  have H1 : Hid (Below w.heap.size w w1) := HB.out.grown hg1 (by simp) (by intro k hk; simp [Value.ownBlock] at hk; omega)
  have O1 : Hid (OwnV w.heap.size w1 v1 r) := ho1
  clear ho1 hg1 HX HO0 HB
  go_wp2_with fail
  go_loopg [5, 6] ds.length (fun gk s5 s6 wr => Below w.heap.size w wr ∧ ∃ k : Nat, k + gk = ds.length ∧ s6 = .int .i64 (k : Int) ∧ OwnV w.heap.size wr s5 (advL r (ds.take k)))
  case atStart => exact ⟨H1.out, 0, by omega, rfl, O1.out⟩
  case round =>
    clear O1 H1
    obtain ⟨hbw, k, hk, rfl, hown⟩ := hrel
    have HW := hide hbw
    have HOW := hide hown
    by_cases hlt : k < ds.length
    · obtain ⟨b, off, rfl, hbb, hcell⟩ := hd.resolve_left (by rintro rfl; simp at hlt)
      have e := at6 (fun j u hu => (hbw.cell (p := ⟨b, _, none⟩) hbb).trans (hcell k hlt j u hu))
      obtain ⟨q1, q2⟩ := HG.out k hlt
      have hs : advL r (ds.take (k + 1)) = newR (advL r (ds.take k)) ds[k] := by rw [List.take_succ_eq_append_getElem hlt, adv_snoc]
      obtain ⟨c, hc⟩ : ∃ c, ds[k] = c := ⟨_, rfl⟩
      obtain ⟨y, hy⟩ : ∃ y, advL r (ds.take k) = y := ⟨_, rfl⟩
      rw [hc, hy] at hs
      rw [hc] at e q2
      rw [hy] at hown HOW q1
      have HS := hide hs
      obtain ⟨ra, rn, rfl, -, -⟩ := own_slc hown
      have HM := hide (smove_any c _ (G k) y wr (OwnR.recs vEnc_len HOW.out) q2 q1)
      obtain ⟨e0, e1, e2, e3, e4, e5⟩ := e
      clear hd hcell hbw hown hs hy hc q1 q2 HOW
      go_wp2_with fail
      with_reducible refine HM.out.mono ?_
      rintro e w3 ⟨u3, rfl, ho3, hb3⟩
      have H3 := hide (HW.out.trans (hb3.mono HW.out.size))
      have O3 : Hid (OwnV w.heap.size w3 u3 (advL r (ds.take (k + 1)))) := by unfold Hid; rw [HS.out]; exact OwnR.mono ho3 HW.out.size
      clear hb3 ho3 e0 e1 e2 e3 e4 e5
      go_wp2_with fail
      go_roundg (gk - 1)
      case measure => omega
      case rel => exact ⟨H3.out, k + 1, by omega, by go_num, O3.out⟩
    · have hkl : k = ds.length := by omega
      rw [hkl, List.take_length] at hown
      have HF := hide hown
      obtain ⟨ra, rn, rfl, -, -⟩ := own_slc hown
      clear hd hbw hown HOW
      go_wp2_with fail
      go_ret
      exact ⟨_, rfl, HF.out, HW.out⟩
theorem recs_empty {α : Type} {enc : α → List Value} {k : Nat} (W : World) (a : Option Addr) (c : Nat) (hc : c ≤ 9223372036854775807) (hn : a = none → c = 0) : Recs enc k W (.slice a 0 c) ([] : List α) := ⟨a, c, rfl, Nat.zero_le _, hc, hn, .inl rfl⟩
set_option maxHeartbeats 16000000 in
set_option maxRecDepth 100000 in
theorem sRead_any (v u x : Value) (f : List RCol) (cs : List RChg) (i j : Int) (r : List RVal) (w : World) (h : Recs cEnc 4 w v f) (h' : Recs hEnc 6 w u cs) (hx : Recs vEnc 3 w x r) (ho : ∀ c ∈ f, okC c) (hoc : ∀ c ∈ cs, okH c) (hor : ∀ c ∈ r, okV c) :
    Calls Tryd.prog 50 #[v, u, .int .i64 i, .int .i64 j, x] w (RRet w (readL f cs i j r)) := by
  obtain ⟨R, hR⟩ : ∃ R, R = readL f cs i j r := ⟨_, rfl⟩
  rw [← hR]
  have HVC := hide (svalidChain_any v u f cs w h h' ho hoc)
  have HF := hide h
  have HX := hide hx
  have HU := hide h'
  have HFO := hide (fun (W : World) (h1 : Recs cEnc 4 W v f) (h2 : Recs hEnc 6 W u cs) (hv : fmtB f = true) (h8 : cs.length ≤ 8) => sformats_any v u f cs W h1 h2 hv ho hoc h8)
  have HSF := hide (fun (W : World) (y : Value) (g : List RCol) (h1 : Recs cEnc 4 W y g) (h2 : Recs vEnc 3 W x r) => sfits_any y x g r W h1 h2 hor)
  obtain ⟨av, cv, rfl, -, -⟩ := h.shape
  obtain ⟨au, cu, rfl, hlu, hcu⟩ := h'.shape
  obtain ⟨ax, cx, rfl, -, -⟩ := hx.shape
  clear h hx h' ho hoc hor
  have HRR := hide hR
  clear hR
  cases hch : chainL f cs with
  | none =>
    have HR : Hid (R = none) := by unfold Hid; rw [HRR.out]; unfold readL; rw [hch]
    rw [hch] at HVC
    simp only [Option.isSome_none] at HVC
    clear HRR hch
    go_enter Tryd.func50, Tryd.ntmps50
    go_wp2_with fail
    with_reducible refine HVC.out.mono ?_
    rintro e w1 ⟨rfl, hb1⟩
    have H1 := hide hb1
    clear hb1
    go_wp2_with fail
    all_goals go_tidy
    exact ⟨rfl, .tuple #[.slice none 0 0, .bool false], by simp [results, Tryd.results50, go_sem], H1.out, by rw [HR.out]⟩
  | some L =>
    rw [hch] at HVC
    simp only [Option.isSome_some] at HVC
    have HLL := hide (chain_len hch)
    by_cases hi : 0 ≤ i ∧ i ≤ (cs.length : Int)
    · by_cases hj : i ≤ j ∧ j ≤ (cs.length : Int)
      · obtain ⟨A, rfl⟩ : ∃ A : Nat, i = (A : Int) := ⟨i.toNat, by omega⟩
        obtain ⟨N, rfl⟩ : ∃ N : Nat, j = ((A + N : Nat) : Int) := ⟨(j - A).toNat, by omega⟩
        have hAN : A + N ≤ cs.length := by omega
        have hA : A < L.length := by have := HLL.out; omega
        have hLp : 1 ≤ L.length := by omega
        obtain ⟨hc1, hc2, hc3⟩ := chain_of hch
        have hfm := chain_fmt hch A hA
        have HFE : Hid (L[(A : Int).toNat]?.getD [] = L[A]) := by unfold Hid; rw [Int.toNat_natCast, List.getElem?_eq_getElem hA]; rfl
        have HFO1 := hide (fun W h1 h2 => HFO.out W h1 h2 hc1 hc2)
        rw [hc3] at HFO1
        have HI1 := hide (fun w => inRange_yes (A : Int) 0 (cs.length : Int) w hi.1 hi.2)
        have HI2 := hide (fun w => inRange_yes ((A : Int) + (N : Int)) (A : Int) (cs.length : Int) w (by omega) (by omega))
        clear HFO hi hj
        cases hft : sfitB L[A] r with
        | false =>
          have HR : Hid (R = none) := by unfold Hid; rw [HRR.out]; unfold readL; rw [hch]; simp only; rw [if_neg (by rw [HFE.out, fitB_eq, hft]; simp)]
          clear HRR hch HFE hc1 hc2 hc3 hfm
          go_enter Tryd.func50, Tryd.ntmps50
          go_wp2_with fail
          with_reducible refine HVC.out.mono ?_
          rintro e w1 ⟨rfl, hb1⟩
          have H1 := hide hb1
          have F1 := hide (HF.out.keep hb1)
          have U1 := hide (HU.out.keep hb1)
          clear hb1
          go_wp2_with fail
          with_reducible refine (HI1.out _).mono ?_
          rintro e _ ⟨rfl, rfl⟩
          go_wp2_with fail
          with_reducible refine (HI2.out _).mono ?_
          rintro e _ ⟨rfl, rfl⟩
          go_wp2_with fail
          with_reducible refine (HFO1.out _ F1.out U1.out).mono ?_
          rintro e w2 ⟨hb2, v2, rfl, ho2⟩
          have H2 := hide (H1.out.trans (hb2.mono H1.out.size))
          obtain ⟨bL, cL, rfl, -, -, hcell⟩ := ho2.rows hLp
          obtain ⟨a0, n0, l0, r0⟩ := hcell _ (Below.refl _ _) A hA
          have HFF := hide (HSF.out _ _ _ r0 (HX.out.keep H2.out))
          rw [hft] at HFF
          clear hb2 ho2 hcell r0 hft
          generalize L[A] = gA at *
          go_wp2_with fail
          with_reducible refine HFF.out.mono ?_
          rintro e w3 ⟨rfl, hb3⟩
          have H3 := hide (H2.out.trans (hb3.mono H2.out.size))
          clear hb3
          go_wp2_with fail
          all_goals go_tidy
          exact ⟨rfl, .tuple #[.slice none 0 0, .bool false], by simp [results, Tryd.results50, go_sem], H3.out, by rw [HR.out]⟩
        | true =>
          have hff : fitB L[A] r = true := by rw [fitB_eq, hfm, hft]; rfl
          have HR : Hid (R = some (advL r ((cs.drop A).take N))) := by
            unfold Hid; rw [HRR.out]; unfold readL; rw [hch]; simp only
            rw [if_pos ⟨by omega, by omega, by omega, by rw [HFE.out, hff]⟩, Int.toNat_natCast, Int.toNat_natCast, Nat.add_sub_cancel_left]
          have HGG : Hid (∀ k (hk : k < ((cs.drop A).take N).length), fitB (L[A + k]?.getD []) (advL r (((cs.drop A).take N).take k)) = true ∧ posB (L[A + k]?.getD []) ((cs.drop A).take N)[k] = true) := fun k hk => by
            have hk' : k < N := by rw [List.length_take] at hk; omega
            have hAk : A + k < L.length := by have := HLL.out; omega
            rw [List.getElem?_eq_getElem hAk, List.take_take, Nat.min_eq_left (by omega), List.getElem_take, List.getElem_drop]
            exact ⟨adv_fit hch A r hA hff k hAk, (chain_pos hch (A + k) (by omega) hAk (by have := HLL.out; omega)).2.1⟩
          have hr5 : r.length ≤ 5 := (fit_of hff).2.1
          have HSL : Hid (∀ (W : World) (a' : Option Addr), Below w.heap.size w W → (a' = none → cu - A = 0) → (0 < N → ∀ b off, au = some ⟨b, off, none⟩ → a' = some ⟨b, off + A * 6, none⟩) → Recs hEnc 6 W (.slice a' N (cu - A)) ((cs.drop A).take N)) := fun W a' hW q1 q2 => by
            have := (HU.out.keep hW).sub A (A + N) (by omega) hAN q1 (fun hlt b off e => q2 (by omega) b off e)
            rw [show A + N - A = N by omega] at this
            exact this
          have HAD := hide (fun (W : World) (a' : Option Addr) (hW : Below w.heap.size w W) q1 q2 => sAdv_any (.slice ax r.length cx) (.slice a' N (cu - A)) r ((cs.drop A).take N) (fun k => L[A + k]?.getD []) W (HX.out.keep hW) (HSL.out W a' hW q1 q2) hr5 HGG.out)
          clear HRR hch HFE hc1 hc2 hc3 hfm hff HGG HSL
          obtain ⟨D, hD⟩ : ∃ D, advL r ((cs.drop A).take N) = D := ⟨_, rfl⟩
          rw [hD] at HAD HR
          clear hD
          go_enter Tryd.func50, Tryd.ntmps50
          go_wp2_with fail
          with_reducible refine HVC.out.mono ?_
          rintro e w1 ⟨rfl, hb1⟩
          have H1 := hide hb1
          have F1 := hide (HF.out.keep hb1)
          have U1 := hide (HU.out.keep hb1)
          clear hb1
          go_wp2_with fail
          with_reducible refine (HI1.out _).mono ?_
          rintro e _ ⟨rfl, rfl⟩
          go_wp2_with fail
          with_reducible refine (HI2.out _).mono ?_
          rintro e _ ⟨rfl, rfl⟩
          go_wp2_with fail
          with_reducible refine (HFO1.out _ F1.out U1.out).mono ?_
          rintro e w2 ⟨hb2, v2, rfl, ho2⟩
          have H2 := hide (H1.out.trans (hb2.mono H1.out.size))
          obtain ⟨bL, cL, rfl, -, -, hcell⟩ := ho2.rows hLp
          obtain ⟨a0, n0, l0, r0⟩ := hcell _ (Below.refl _ _) A hA
          have HFF := hide (HSF.out _ _ _ r0 (HX.out.keep H2.out))
          rw [hft] at HFF
          clear hb2 ho2 hcell r0 hft
          obtain ⟨gA, hgA⟩ : ∃ gA, L[A] = gA := ⟨_, rfl⟩
          rw [hgA] at HFF l0
          clear hgA
          go_wp2_with fail
          with_reducible refine HFF.out.mono ?_
          rintro e w3 ⟨rfl, hb3⟩
          have H3 := hide (H2.out.trans (hb3.mono H2.out.size))
          have F3 := hide (HU.out.keep H3.out)
          clear hb3 l0 HFF U1
          have hAcu : A ≤ cu := by omega
          have hANc : A + N ≤ cu := by omega
          have hq0 : (0 : Int) ≤ (A : Int) + (N : Int) := by omega
          have hq1 : (A : Int) ≤ (A : Int) + (N : Int) := by omega
          have hq2 : (A : Int) + (N : Int) ≤ (cs.length : Int) := by omega
          have hq3 : (A : Int) + (N : Int) ≤ (cu : Int) := by omega
          have hq4 : ((A : Int) + (N : Int)).toNat = A + N := by omega
          have HU1 := HU.out
          by_cases hcA : cu = A
          · have hN0 : N = 0 := by omega
            subst hN0
            subst hcA
            have HAD1 := hide (fun W hW => HAD.out W au hW (fun _ => by omega) (fun h => absurd h (by omega)))
            rw [Nat.sub_self] at HAD1
            clear HAD HU1
            cases au with
            | none =>
              go_wp2_with fail
              with_reducible refine (HAD1.out _ H3.out).mono ?_
              rintro e w4 ⟨v4, rfl, ho4, hb4⟩
              have H4 := hide (H3.out.trans (hb4.mono H3.out.size))
              have O4 : Hid (OwnV w.heap.size w4 v4 D) := OwnR.mono ho4 H3.out.size
              clear hb4 ho4
              go_wp2_with fail
              all_goals go_tidy
              exact ⟨rfl, .tuple #[v4, .bool true], by simp [results, Tryd.results50, go_sem], H4.out, by rw [HR.out]; exact ⟨_, rfl, O4.out⟩⟩
            | some ad =>
              go_wp2_with fail
              with_reducible refine (HAD1.out _ H3.out).mono ?_
              rintro e w4 ⟨v4, rfl, ho4, hb4⟩
              have H4 := hide (H3.out.trans (hb4.mono H3.out.size))
              have O4 : Hid (OwnV w.heap.size w4 v4 D) := OwnR.mono ho4 H3.out.size
              clear hb4 ho4
              go_wp2_with fail
              all_goals go_tidy
              exact ⟨rfl, .tuple #[v4, .bool true], by simp [results, Tryd.results50, go_sem], H4.out, by rw [HR.out]; exact ⟨_, rfl, O4.out⟩⟩
          · cases au with
            | none =>
              obtain ⟨a9, c9, hv9, -, -, hn9, -⟩ := HU1
              injection hv9 with g1 g2 g3
              have := hn9 g1.symm
              omega
            | some ad =>
              have HAD1 := hide (fun W hW => HAD.out W (some (ad.add (A * 6))) hW (fun h => by cases h) (fun h b off e => by injection e with e; rw [e, Addr.add_lit]))
              clear HAD HU1
              obtain ⟨M, hM⟩ : ∃ M, cu = A + M := ⟨cu - A, by omega⟩
              subst hM
              rw [Nat.add_sub_cancel_left] at HAD1
              have hM0 : M ≠ 0 := by omega
              clear hcA
              obtain ⟨bb, oo, ss⟩ := ad
              go_wp2_with fail
              with_reducible refine (HAD1.out _ H3.out).mono ?_
              rintro e w4 ⟨v4, rfl, ho4, hb4⟩
              have H4 := hide (H3.out.trans (hb4.mono H3.out.size))
              have O4 : Hid (OwnV w.heap.size w4 v4 D) := OwnR.mono ho4 H3.out.size
              clear hb4 ho4
              go_wp2_with fail
              all_goals go_tidy
              exact ⟨rfl, .tuple #[v4, .bool true], by simp [results, Tryd.results50, go_sem], H4.out, by rw [HR.out]; exact ⟨_, rfl, O4.out⟩⟩
      · have HR : Hid (R = none) := by unfold Hid; rw [HRR.out]; unfold readL; rw [hch]; simp only; rw [if_neg (by omega)]
        have HI1 := hide (fun w => inRange_yes i 0 (cs.length : Int) w hi.1 hi.2)
        have HI2 := hide (fun w => inRange_no j i (cs.length : Int) w hj)
        clear HRR hch HFO hi hj
        go_enter Tryd.func50, Tryd.ntmps50
        go_wp2_with fail
        with_reducible refine HVC.out.mono ?_
        rintro e w1 ⟨rfl, hb1⟩
        have H1 := hide hb1
        clear hb1
        go_wp2_with fail
        with_reducible refine (HI1.out _).mono ?_
        rintro e _ ⟨rfl, rfl⟩
        go_wp2_with fail
        with_reducible refine (HI2.out _).mono ?_
        rintro e _ ⟨rfl, rfl⟩
        go_wp2_with fail
        all_goals go_tidy
        exact ⟨rfl, .tuple #[.slice none 0 0, .bool false], by simp [results, Tryd.results50, go_sem], H1.out, by rw [HR.out]⟩
    · have HR : Hid (R = none) := by unfold Hid; rw [HRR.out]; unfold readL; rw [hch]; simp only; rw [if_neg (by omega)]
      have HI1 := hide (fun w => inRange_no i 0 (cs.length : Int) w hi)
      clear HRR hch HFO hi
      go_enter Tryd.func50, Tryd.ntmps50
      go_wp2_with fail
      with_reducible refine HVC.out.mono ?_
      rintro e w1 ⟨rfl, hb1⟩
      have H1 := hide hb1
      clear hb1
      go_wp2_with fail
      with_reducible refine (HI1.out _).mono ?_
      rintro e _ ⟨rfl, rfl⟩
      go_wp2_with fail
      all_goals go_tidy
      exact ⟨rfl, .tuple #[.slice none 0 0, .bool false], by simp [results, Tryd.results50, go_sem], H1.out, by rw [HR.out]⟩
end Go.Proofs.YtdijcdadcbhipaaDoor
