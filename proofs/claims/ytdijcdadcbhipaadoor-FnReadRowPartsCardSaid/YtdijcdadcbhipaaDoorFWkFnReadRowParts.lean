/-
  The walk of FnReadRowParts.
-/
import Derived.Test.YtdijcdadcbhipaaDoorFG12
import Derived.Test.YtdijcdadcbhipaaDoorFRd
import Derived.Test.YtdijcdadcbhipaaDoorFEq
set_option linter.all false
namespace Go.Proofs.YtdijcdadcbhipaaDoor
open Go.RowKit
set_option maxHeartbeats 16000000 in
set_option maxRecDepth 100000 in
theorem fnReadRowParts_walk (v : Value) (w : World) (h : BytesAt w v) (ht : Tab w) :
    Calls Tryd.prog 13 #[v] w fun e w' => e = .returned (.bool true) ∧ Below w.heap.size w w' := by
  have HB := hide h
  obtain ⟨a, len, cap0, rfl, hlc, hcap0, -⟩ := h
  by_cases hlen : 1048576 < len
  · go_enter Tryd.func13, Tryd.ntmps13
    go_wp2_with fail
    go_ret
    exact ⟨rfl, Below.refl _ _⟩
  go_enter Tryd.func13, Tryd.ntmps13
  go_wp2_with fail
  with_reducible refine (drawReadRow_any _ _ HB.out).mono ?_
  rintro e w1 ⟨v1, u1, x1, f, cs, i, j, r, rfl, hf1, hc1, hx1, hgf, hgc, hgr, hl6, hl9, hlr, hb1⟩
  have H1 := hide hb1
  have F1 := hide hf1
  have C1 := hide hc1
  have X1 := hide hx1
  have OKF : Hid (∀ x ∈ f, okC x) := fun x hx => genV_okC (hgf x hx)
  have OKC : Hid (∀ c ∈ cs, okH c) := fun x hx => genV_okC (hgc x hx)
  have OKR : Hid (∀ x ∈ r, okV x) := fun x hx => by have := (hgr x hx).1; unfold okV; omega
  obtain ⟨fa, fc, rfl, -, -⟩ := hf1.shape
  obtain ⟨ca, cc, rfl, -, -⟩ := hc1.shape
  obtain ⟨xa, xc, rfl, -, -⟩ := hx1.shape
  clear hb1 hf1 hc1 hx1 hgf hgc hgr HB hl6 hlr
  go_wp2_with fail
  with_reducible refine (iRead_any _ _ _ f cs i j r _ F1.out C1.out X1.out (ht.keep H1.out)).mono ?_
  rintro e w3 ⟨hb3, hq3⟩
  have H3 : Hid (Below w.heap.size w w3) := H1.out.trans (hb3.mono H1.out.size)
  have Y3 := hide hb3
  have F3 := hide (F1.out.keep hb3)
  have C3 := hide (C1.out.keep hb3)
  have X3 := hide (X1.out.keep hb3)
  clear hb3
  cases hR : readL f cs i j r with
  | none =>
    rw [hR] at hq3
    obtain rfl := hq3
    have HR := hide hR
    clear hR
    go_wp2_with fail
    with_reducible refine (sRead_any _ _ _ f cs i j r _ F3.out C3.out X3.out OKF.out OKC.out OKR.out).mono ?_
    rintro e w4 ⟨hb4, hq4⟩
    have H4 : Hid (Below w.heap.size w w4) := H3.out.trans (hb4.mono H3.out.size)
    rw [HR.out] at hq4
    obtain rfl := hq4
    clear hb4
    go_wp2_with fail
    with_reducible refine (eqV_same _ _ [] _ (recs_nil _) (recs_nil _)).mono ?_
    rintro e w5 ⟨rfl, hb5⟩
    have H5 : Hid (Below w.heap.size w w5) := H4.out.trans (hb5.mono H4.out.size)
    clear hb5
    go_wp2_with fail
    with_reducible refine (eqV_same _ _ [] _ (recs_nil _) (recs_nil _)).mono ?_
    rintro e w6 ⟨rfl, hb6⟩
    have H6 : Hid (Below w.heap.size w w6) := H5.out.trans (hb6.mono H5.out.size)
    clear hb6
    go_wp2_with fail
    go_ret
    exact ⟨rfl, H6.out⟩
  | some D =>
    rw [hR] at hq3
    obtain ⟨v3, rfl, ho3⟩ := hq3
    have HR := hide hR
    have D3 : Hid (Recs vEnc 3 w3 v3 D) := OwnR.recs vEnc_len ho3
    obtain ⟨ga, gc, rfl, -, -⟩ := own_slc ho3
    obtain ⟨L, hL, hi0, hij, hjc, hft, hD⟩ := readL_some hR
    have HL := hide hL
    have hLL := chain_len hL
    obtain ⟨A, rfl⟩ : ∃ A : Nat, i = (A : Int) := ⟨i.toNat, by omega⟩
    obtain ⟨M, rfl⟩ : ∃ M : Nat, j = (M : Int) := ⟨j.toNat, by omega⟩
    rw [Int.toNat_natCast] at hft hD
    rw [Int.toNat_natCast] at hD
    have hAM : A ≤ M := by omega
    have hMc : M ≤ cs.length := by omega
    have hAL : A < L.length := by omega
    have hML : M < L.length := by omega
    obtain ⟨Q, hQ⟩ : ∃ Q : Nat, Q = (A + M) / 2 := ⟨_, rfl⟩
    have hAQ : A ≤ Q := by omega
    have hQM : Q ≤ M := by omega
    have hdiv : ((A : Int) + (M : Int)).tdiv 2 = (Q : Int) := by
      rw [hQ]; rw [← Int.natCast_add]; rfl
    have hws : IntKind.i64.wrap ((A : Int) + (M : Int)) = (A : Int) + (M : Int) := by rw [IntKind.wrap_i64]; omega
    have hwq : IntKind.i64.wrap (Q : Int) = (Q : Int) := by rw [IntKind.wrap_i64]; omega
    obtain ⟨y, hy⟩ : ∃ y, y = advL r ((cs.drop A).take (Q - A)) := ⟨_, rfl⟩
    have HR1 : Hid (readL f cs (A : Int) (Q : Int) r = some y) := by
      unfold Hid
      rw [readL_mk hL (by omega) (by omega) (by omega) (by rw [Int.toNat_natCast]; exact hft), Int.toNat_natCast, Int.toNat_natCast, hy]
    have HR2 : Hid (readL f cs (Q : Int) (M : Int) y = some D) := by
      unfold Hid
      have hQL : Q < L.length := by omega
      have h8 : fitB (L[(Q : Int).toNat]?.getD []) y = true := by
        rw [List.getElem?_eq_getElem hAL] at hft
        have h9 := adv_fit hL A r hAL hft (Q - A) (by omega)
        have e9 : A + (Q - A) = Q := by omega
        simp only [e9] at h9
        rw [Int.toNat_natCast, List.getElem?_eq_getElem hQL, hy]; exact h9
      rw [readL_mk hL (by omega) (by omega) (by omega) h8, Int.toNat_natCast, Int.toNat_natCast, hy, hD]
      have h7 := adv_parts r cs A (Q - A) (M - Q)
      rw [show A + (Q - A) = Q by omega, show Q - A + (M - Q) = M - A by omega] at h7
      rw [h7]
    clear hQ hy
    clear hR ho3 hL hft hD hLL hi0 hij hjc hAL hML
    go_wp2_with fail
    with_reducible refine (sRead_any _ _ _ f cs (A : Int) (M : Int) r _ F3.out C3.out X3.out OKF.out OKC.out OKR.out).mono ?_
    rintro e w4 ⟨hb4, hq4⟩
    have H4 : Hid (Below w.heap.size w w4) := H3.out.trans (hb4.mono H3.out.size)
    rw [HR.out] at hq4
    obtain ⟨v4, rfl, ho4⟩ := hq4
    have D4 := hide (D3.out.keep hb4)
    have F4 := hide (F3.out.keep hb4)
    have C4 := hide (C3.out.keep hb4)
    have X4 := hide (X3.out.keep hb4)
    have E4 : Hid (Recs vEnc 3 w4 v4 D) := OwnR.recs vEnc_len ho4
    obtain ⟨g4, gc4, rfl, -, -⟩ := own_slc ho4
    clear hb4 ho4
    go_wp2_with fail
    with_reducible refine (eqV_same _ _ D _ D4.out E4.out).mono ?_
    rintro e w5 ⟨rfl, hb5⟩
    have H5 : Hid (Below w.heap.size w w5) := H4.out.trans (hb5.mono H4.out.size)
    have D5 := hide (D4.out.keep hb5)
    have F5 := hide (F4.out.keep hb5)
    have C5 := hide (C4.out.keep hb5)
    have X5 := hide (X4.out.keep hb5)
    clear hb5 E4
    go_wp2_with fail
    with_reducible refine (iRead_any _ _ _ f cs (A : Int) (Q : Int) r _ F5.out C5.out X5.out (ht.keep H5.out)).mono ?_
    rintro e w6 ⟨hb6, hq6⟩
    have H6 : Hid (Below w.heap.size w w6) := H5.out.trans (hb6.mono H5.out.size)
    rw [HR1.out] at hq6
    obtain ⟨v6, rfl, ho6⟩ := hq6
    have D6 := hide (D5.out.keep hb6)
    have F6 := hide (F5.out.keep hb6)
    have C6 := hide (C5.out.keep hb6)
    have A6 : Hid (Recs vEnc 3 w6 v6 y) := OwnR.recs vEnc_len ho6
    obtain ⟨g6, gc6, rfl, -, -⟩ := own_slc ho6
    clear hb6 ho6
    go_wp2_with fail
    with_reducible refine (iRead_any _ _ _ f cs (Q : Int) (M : Int) y _ F6.out C6.out A6.out (ht.keep H6.out)).mono ?_
    rintro e w7 ⟨hb7, hq7⟩
    have H7 : Hid (Below w.heap.size w w7) := H6.out.trans (hb7.mono H6.out.size)
    rw [HR2.out] at hq7
    obtain ⟨v7, rfl, ho7⟩ := hq7
    have D7 := hide (D6.out.keep hb7)
    have E7 : Hid (Recs vEnc 3 w7 v7 D) := OwnR.recs vEnc_len ho7
    obtain ⟨g7, gc7, rfl, -, -⟩ := own_slc ho7
    clear hb7 ho7
    go_wp2_with fail
    with_reducible refine (eqV_same _ _ D _ E7.out D7.out).mono ?_
    rintro e w8 ⟨rfl, hb8⟩
    have H8 : Hid (Below w.heap.size w w8) := H7.out.trans (hb8.mono H7.out.size)
    clear hb8
    go_wp2_with fail
    go_ret
    exact ⟨rfl, H8.out⟩
end Go.Proofs.YtdijcdadcbhipaaDoor
