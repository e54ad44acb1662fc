/-
  The walk of FnChainOf.
-/
import Derived.Test.YtdijcdadcbhipaaDoorFG11
import Derived.Test.YtdijcdadcbhipaaDoorFCc
import Derived.Test.YtdijcdadcbhipaaDoorFEs
set_option linter.all false
namespace Go.Proofs.YtdijcdadcbhipaaDoor
open Go.RowKit
set_option maxHeartbeats 16000000 in
set_option maxRecDepth 100000 in
theorem fnChainOf_walk (v : Value) (w : World) (h : BytesAt w v) (ht : Tab w) :
    Calls Tryd.prog 7 #[v] w fun e w' => e = .returned (.bool true) ∧ Below w.heap.size w w' := by
  have HB := hide h
  obtain ⟨a, len, cap0, rfl, hlc, hcap0, -⟩ := h
  by_cases hlen : 1048576 < len
  · go_enter Tryd.func7, Tryd.ntmps7
    go_wp2_with fail
    go_ret
    exact ⟨rfl, Below.refl _ _⟩
  go_enter Tryd.func7, Tryd.ntmps7
  go_wp2_with fail
  with_reducible refine (drawChainOf_any _ _ HB.out).mono ?_
  rintro e w1 ⟨v1, u1, f, cs, rfl, hf1, hc1, hgf, hgc, hl6, hl9, hb1⟩
  have H1 := hide hb1
  have F1 := hide hf1
  have C1 := hide hc1
  have OKF : Hid (∀ x ∈ f, okC x) := fun x hx => genV_okC (hgf x hx)
  have OKC : Hid (∀ c ∈ cs, okH c) := fun x hx => genV_okC (hgc x hx)
  obtain ⟨fa, fc, rfl, -, -⟩ := hf1.shape
  obtain ⟨ca, cc, rfl, -, -, -, hd⟩ := hc1
  have HD := hide hd
  clear hb1 hf1 hgf hgc HB hl6 hd
  go_wp2_with fail
  with_reducible refine (iChain_any _ _ f cs _ F1.out C1.out (ht.keep H1.out)).mono ?_
  rintro e w3 ⟨hb3, hq3⟩
  have H3 : Hid (Below w.heap.size w w3) := H1.out.trans (hb3.mono H1.out.size)
  have Y3 := hide hb3
  have F3 := hide (F1.out.keep hb3)
  have C3 := hide (C1.out.keep hb3)
  clear hb3
  cases hR : chainL f cs with
  | none =>
    rw [hR] at hq3
    obtain rfl := hq3
    have HR := hide hR
    clear hR
    go_wp2_with fail
    with_reducible refine (sChain_any _ _ f cs _ F3.out C3.out OKF.out OKC.out).mono ?_
    rintro e w4 ⟨hb4, hq4⟩
    have H4 : Hid (Below w.heap.size w w4) := H3.out.trans (hb4.mono H3.out.size)
    rw [HR.out] at hq4
    obtain rfl := hq4
    clear hb4
    go_wp2_with fail
    with_reducible refine (eqL_same _ _ [] _ (OwnL.nil 0 _).lvs (OwnL.nil 0 _).lvs).mono ?_
    rintro e w5 ⟨rfl, hb5⟩
    have H5 : Hid (Below w.heap.size w w5) := H4.out.trans (hb5.mono H4.out.size)
    clear hb5
    go_wp2_with fail
    with_reducible refine (eqL_same _ _ [] _ (OwnL.nil 0 _).lvs (OwnL.nil 0 _).lvs).mono ?_
    rintro e w6 ⟨rfl, hb6⟩
    have H6 : Hid (Below w.heap.size w w6) := H5.out.trans (hb6.mono H5.out.size)
    clear hb6
    go_wp2_with fail
    go_ret
    exact ⟨rfl, H6.out⟩
  | some L =>
    rw [hR] at hq3
    obtain ⟨v3, rfl, ho3⟩ := hq3
    have HR := hide hR
    have O3 := hide ho3
    have hLL := chain_len hR
    have hL1 : 1 ≤ L.length := by omega
    obtain ⟨bL, cL, rfl, hcL1, hcL2, hcell⟩ := ho3.rows hL1
    have HLL := hide hLL
    have HCELL := hide hcell
    clear hR ho3 hcell hLL
    go_wp2_with fail
    with_reducible refine (sChain_any _ _ f cs _ F3.out C3.out OKF.out OKC.out).mono ?_
    rintro e w4 ⟨hb4, hq4⟩
    have H4 : Hid (Below w.heap.size w w4) := H3.out.trans (hb4.mono H3.out.size)
    have Z4 := hide hb4
    rw [HR.out] at hq4
    obtain ⟨v4, rfl, ho4⟩ := hq4
    have O4 := hide (O3.out.keep hb4)
    have P4 := hide ho4
    obtain ⟨a4, c4, rfl, -, -⟩ := ownL_slc ho4
    clear hb4 ho4 O3
    go_wp2_with fail
    with_reducible refine (eqL_same _ _ L _ O4.out.lvs P4.out.lvs).mono ?_
    rintro e w5 ⟨rfl, hb5⟩
    have H5 : Hid (Below w.heap.size w w5) := H4.out.trans (hb5.mono H4.out.size)
    have Z5 : Hid (Below w3.heap.size w3 w5) := Z4.out.trans (hb5.mono Z4.out.size)
    clear hb5 O4 P4 Z4 H4
    go_wp2_with fail
    go_loopg [9] cs.length (fun gk s9 wr => Below w5.heap.size w5 wr ∧ ∃ k : Nat, k + gk = cs.length ∧ s9 = .int .i64 (k : Int))
    case atStart => exact ⟨Below.refl _ _, 0, by omega, rfl⟩
    case round =>
      obtain ⟨hbw, k, hk, rfl⟩ := hrel
      have HW := hide hbw
      have HV := hide (H5.out.trans (hbw.mono H5.out.size))
      have hz := Z5.out.trans (hbw.mono Z5.out.size)
      have HZ := hide hz
      have hy := Y3.out.trans (hz.mono Y3.out.size)
      by_cases hlt : k < cs.length
      · have hkL : k < L.length := by have := HLL.out; omega
        have hkL1 : k + 1 < L.length := by have := HLL.out; omega
        obtain ⟨al, nl, l0, r0⟩ := HCELL.out wr hz k hkL
        obtain ⟨b, off, rfl, hbb, hcell⟩ := HD.out.resolve_left (by rintro rfl; simp at hlt)
        have e := at6 (fun j u hu => (hy.cell (p := ⟨b, _, none⟩) hbb).trans (hcell k hlt j u hu))
        have hst := chain_step HR.out k hlt hkL hkL1
        obtain ⟨c, hc⟩ : ∃ c, cs[k] = c := ⟨_, rfl⟩
        obtain ⟨gL, hgL⟩ : ∃ g, L[k] = g := ⟨_, rfl⟩
        obtain ⟨gn, hgn⟩ : ∃ g, L[k + 1] = g := ⟨_, rfl⟩
        have HN : Hid (∀ W, Below wr.heap.size wr W → ∃ a n, W.cell? ⟨bL, k + 1, none⟩ = some (.slice a gn.length n) ∧ Recs cEnc 4 W (.slice a gn.length n) gn) := fun W hW => by
          rw [← hgn]; exact HCELL.out W (hz.trans (hW.mono hz.size)) (k + 1) hkL1
        rw [hgL, hc, hgn] at hst
        rw [hgL] at l0 r0
        rw [hc] at e
        have HIC : Hid (∀ W, Below wr.heap.size wr W → Calls Tryd.prog 16 #[.slice al gL.length nl, (.agg #[.int .i64 c.k, .int .i64 c.a, .int .i64 c.c.k, .int .i64 c.c.d.k, .int .i64 c.c.d.n, .string c.c.d.s])] W (CRet wr (some gn))) := fun W hW => by
          have := iChange_any c _ gL W (r0.keep hW) (ht.keep (HV.out.trans (hW.mono HV.out.size)))
          rw [hst] at this
          exact this.mono fun e w' hq => CRet.trans hW hq
        have ZR := hide (Below.refl wr.heap.size wr)
        obtain ⟨e0, e1, e2, e3, e4, e5⟩ := e
        have hw1 : IntKind.i64.wrap ((k : Int) + 1) = (k : Int) + 1 := by rw [IntKind.wrap_i64]; omega
        have htn : ((k : Int) + 1).toNat = k + 1 := by omega
        have q0 : (0 : Int) ≤ (k : Int) + 1 := by omega
        have q1 : ((k : Int) + 1) < (L.length : Int) := by omega
        clear hbw hz hy hcell hst hgL hgn hc r0
        go_upto_region 11 with fail
        go_region_law (first
          | (go_simp; go_at_call 16; (with_reducible refine (HIC.out _ (by first | exact ZR.out | exact ZR.out.drew)).mono ?_); rintro e z1 ⟨hz1, v9, rfl, ho9⟩; (obtain ⟨a9, c9, rfl, -, -⟩ := own_slc ho9); (have Z1 := hide hz1); (have O9 := hide (OwnR.recs cEnc_len ho9)); clear hz1 ho9)
          | fail)
        all_goals
          obtain ⟨an, nn, m0, R9⟩ := HN.out _ Z1.out
          have R9 := hide R9
          clear e0 e1 e2 e3 e4 e5 l0
          go_wp2_with fail
          with_reducible refine (eqC_same _ _ gn _ O9.out R9.out).mono ?_
          rintro e z2 ⟨rfl, hz2⟩
          have Z2 := hide (HW.out.trans ((Z1.out.trans (hz2.mono Z1.out.size)).mono HW.out.size))
          clear hz2 m0
          go_wp2_with fail
          go_roundg (gk - 1)
          case measure => omega
          case rel => exact ⟨Z2.out, k + 1, by omega, by go_num⟩
      · obtain ⟨al, nl, l0, r0⟩ := HCELL.out wr hz 0 hL1
        have h0 := chain_zero HR.out hL1
        rw [h0] at l0 r0
        have R0 := hide r0
        have FF := hide (F1.out.keep hy)
        have hw1 : IntKind.i64.wrap ((cs.length : Int) + 1) = (cs.length : Int) + 1 := by rw [IntKind.wrap_i64]; omega
        have hle : ((L.length : Int) == (cs.length : Int) + 1) = true := by have := HLL.out; simp; omega
        clear hbw hz hy h0 r0
        go_wp2_with fail
        with_reducible refine (eqC_same _ _ f _ R0.out FF.out).mono ?_
        rintro e z1 ⟨rfl, hz1⟩
        have Z1 := hide (HV.out.trans (hz1.mono HV.out.size))
        clear hz1 l0
        go_wp2_with fail
        go_ret
        exact ⟨by first | rfl | simp [hle] , Z1.out⟩
end Go.Proofs.YtdijcdadcbhipaaDoor
