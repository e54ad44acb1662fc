/-
  The walk of FnReadRow.
-/
import Derived.Test.YtdijcdadcbhipaaDoorFG12
import Derived.Test.YtdijcdadcbhipaaDoorFRd
import Derived.Test.YtdijcdadcbhipaaDoorFEq
set_option linter.all false
namespace Go.Proofs.YtdijcdadcbhipaaDoor
open Go.RowKit
set_option maxHeartbeats 16000000 in
set_option maxRecDepth 100000 in
theorem fnReadRow_walk (v : Value) (w : World) (h : BytesAt w v) (ht : Tab w) :
    Calls Tryd.prog 12 #[v] w fun e w' => e = .returned (.bool true) ∧ Below w.heap.size w w' := by
  have HB := hide h
  obtain ⟨a, len, cap0, rfl, hlc, hcap0, -⟩ := h
  by_cases hlen : 1048576 < len
  · go_enter Tryd.func12, Tryd.ntmps12
    go_wp2_with fail
    go_ret
    exact ⟨rfl, Below.refl _ _⟩
  go_enter Tryd.func12, Tryd.ntmps12
  go_wp2_with fail
  with_reducible refine (drawReadRow_any _ _ HB.out).mono ?_
  rintro e w1 ⟨v1, u1, x1, f, cs, i, j, r, rfl, hf1, hc1, hx1, hgf, hgc, hgr, hl6, hl9, hlr, hb1⟩
  have H1 := hide hb1
  have F1 := hide hf1
  have C1 := hide hc1
  have X1 := hide hx1
  have OKF : Hid (∀ x ∈ f, okC x) := fun x hx => genV_okC (hgf x hx)
  have OKC : Hid (∀ c ∈ cs, okH c) := fun x hx => genV_okC (hgc x hx)
  have OKR : Hid (∀ x ∈ r, okV x) := fun x hx => by have := (hgr x hx).1; unfold okV; omega
  obtain ⟨fa, fc, rfl, -, -⟩ := hf1.shape
  obtain ⟨ca, cc, rfl, -, -⟩ := hc1.shape
  obtain ⟨xa, xc, rfl, -, -⟩ := hx1.shape
  clear hb1 hf1 hc1 hx1 hgf hgc hgr HB hl6 hlr
  go_wp2_with fail
  with_reducible refine (iRead_any _ _ _ f cs i j r _ F1.out C1.out X1.out (ht.keep H1.out)).mono ?_
  rintro e w3 ⟨hb3, hq3⟩
  have H3 : Hid (Below w.heap.size w w3) := H1.out.trans (hb3.mono H1.out.size)
  have Y3 := hide hb3
  have F3 := hide (F1.out.keep hb3)
  have C3 := hide (C1.out.keep hb3)
  have X3 := hide (X1.out.keep hb3)
  clear hb3
  cases hR : readL f cs i j r with
  | none =>
    rw [hR] at hq3
    obtain rfl := hq3
    have HR := hide hR
    clear hR
    go_wp2_with fail
    with_reducible refine (sRead_any _ _ _ f cs i j r _ F3.out C3.out X3.out OKF.out OKC.out OKR.out).mono ?_
    rintro e w4 ⟨hb4, hq4⟩
    have H4 : Hid (Below w.heap.size w w4) := H3.out.trans (hb4.mono H3.out.size)
    rw [HR.out] at hq4
    obtain rfl := hq4
    clear hb4
    go_wp2_with fail
    with_reducible refine (eqV_same _ _ [] _ (recs_nil _) (recs_nil _)).mono ?_
    rintro e w5 ⟨rfl, hb5⟩
    have H5 : Hid (Below w.heap.size w w5) := H4.out.trans (hb5.mono H4.out.size)
    clear hb5
    go_wp2_with fail
    with_reducible refine (eqV_same _ _ [] _ (recs_nil _) (recs_nil _)).mono ?_
    rintro e w6 ⟨rfl, hb6⟩
    have H6 : Hid (Below w.heap.size w w6) := H5.out.trans (hb6.mono H5.out.size)
    clear hb6
    go_wp2_with fail
    go_ret
    exact ⟨rfl, H6.out⟩
  | some D =>
    rw [hR] at hq3
    obtain ⟨v3, rfl, ho3⟩ := hq3
    have HR := hide hR
    have D3 : Hid (Recs vEnc 3 w3 v3 D) := OwnR.recs vEnc_len ho3
    obtain ⟨ga, gc, rfl, -, -⟩ := own_slc ho3
    obtain ⟨L, hL, hi0, hij, hjc, hft, hD⟩ := readL_some hR
    have HL := hide hL
    have hLL := chain_len hL
    obtain ⟨A, rfl⟩ : ∃ A : Nat, i = (A : Int) := ⟨i.toNat, by omega⟩
    obtain ⟨M, rfl⟩ : ∃ M : Nat, j = (M : Int) := ⟨j.toNat, by omega⟩
    rw [Int.toNat_natCast] at hft hD
    rw [Int.toNat_natCast] at hD
    have hAM : A ≤ M := by omega
    have hMc : M ≤ cs.length := by omega
    have hAL : A < L.length := by omega
    have hML : M < L.length := by omega
    have hfit : Hid (fitB L[M] D = true) := by
      unfold Hid
      rw [List.getElem?_eq_getElem hAL] at hft
      have h9 := adv_fit hL A r hAL hft (M - A) (by omega)
      have e9 : A + (M - A) = M := by omega
      simp only [e9] at h9
      rw [hD]; exact h9
    have HSM : Hid (readL f cs (A : Int) (A : Int) r = some r) := by
      unfold Hid
      rw [readL_mk hL (by omega) (by omega) (by omega) (by rw [Int.toNat_natCast]; exact hft), Nat.sub_self, seg_zero]; rfl
    have hL1 : 1 ≤ L.length := by omega
    clear hR ho3 hL hft hD hLL hi0 hij hjc
    go_wp2_with fail
    with_reducible refine (sRead_any _ _ _ f cs (A : Int) (M : Int) r _ F3.out C3.out X3.out OKF.out OKC.out OKR.out).mono ?_
    rintro e w4 ⟨hb4, hq4⟩
    have H4 : Hid (Below w.heap.size w w4) := H3.out.trans (hb4.mono H3.out.size)
    rw [HR.out] at hq4
    obtain ⟨v4, rfl, ho4⟩ := hq4
    have D4 := hide (D3.out.keep hb4)
    have F4 := hide (F3.out.keep hb4)
    have C4 := hide (C3.out.keep hb4)
    have X4 := hide (X3.out.keep hb4)
    have E4 : Hid (Recs vEnc 3 w4 v4 D) := OwnR.recs vEnc_len ho4
    obtain ⟨g4, gc4, rfl, -, -⟩ := own_slc ho4
    clear hb4 ho4
    go_wp2_with fail
    with_reducible refine (eqV_same _ _ D _ D4.out E4.out).mono ?_
    rintro e w5 ⟨rfl, hb5⟩
    have H5 : Hid (Below w.heap.size w w5) := H4.out.trans (hb5.mono H4.out.size)
    have D5 := hide (D4.out.keep hb5)
    have F5 := hide (F4.out.keep hb5)
    have C5 := hide (C4.out.keep hb5)
    have X5 := hide (X4.out.keep hb5)
    clear hb5 E4
    go_wp2_with fail
    with_reducible refine (iChain_any _ _ f cs _ F5.out C5.out (ht.keep H5.out)).mono ?_
    rintro e w6 ⟨hb6, hq6⟩
    have H6 : Hid (Below w.heap.size w w6) := H5.out.trans (hb6.mono H5.out.size)
    rw [HL.out] at hq6
    obtain ⟨v6, rfl, ho6⟩ := hq6
    have D6 := hide (D5.out.keep hb6)
    have F6 := hide (F5.out.keep hb6)
    have C6 := hide (C5.out.keep hb6)
    have X6 := hide (X5.out.keep hb6)
    obtain ⟨bL, cL, rfl, -, -, hcell⟩ := ho6.rows hL1
    have HCELL := hide hcell
    clear hb6 ho6 hcell
    go_wp2_with fail
    with_reducible refine (iRead_any _ _ _ f cs (A : Int) (A : Int) r _ F6.out C6.out X6.out (ht.keep H6.out)).mono ?_
    rintro e w7 ⟨hb7, hq7⟩
    have H7 : Hid (Below w.heap.size w w7) := H6.out.trans (hb7.mono H6.out.size)
    rw [HSM.out] at hq7
    obtain ⟨v7, rfl, ho7⟩ := hq7
    have D7 := hide (D6.out.keep hb7)
    have X7 := hide (X6.out.keep hb7)
    have E7 : Hid (Recs vEnc 3 w7 v7 r) := OwnR.recs vEnc_len ho7
    obtain ⟨g7, gc7, rfl, -, -⟩ := own_slc ho7
    obtain ⟨al, nl, l0, r0⟩ := HCELL.out w7 hb7 M hML
    have HFF := hide (iRowFits_any _ _ _ D w7 r0 D7.out)
    rw [hfit.out] at HFF
    clear hb7 ho7 r0
    go_wp2_with fail
    with_reducible refine HFF.out.mono ?_
    rintro e w8 ⟨rfl, hb8⟩
    have H8 : Hid (Below w.heap.size w w8) := H7.out.trans (hb8.mono H7.out.size)
    have X8 := hide (X7.out.keep hb8)
    have E8 := hide (E7.out.keep hb8)
    clear hb8 l0 HFF
    go_wp2_with fail
    with_reducible refine (eqV_same _ _ r _ E8.out X8.out).mono ?_
    rintro e w9 ⟨rfl, hb9⟩
    have H9 : Hid (Below w.heap.size w w9) := H8.out.trans (hb9.mono H8.out.size)
    clear hb9
    go_wp2_with fail
    go_ret
    exact ⟨rfl, H9.out⟩
end Go.Proofs.YtdijcdadcbhipaaDoor
