/-
  DrawReadRow.
-/
import Derived.Test.YtdijcdadcbhipaaDoorFG11
import Derived.Test.YtdijcdadcbhipaaDoorFCc
set_option linter.all false
namespace Go.Proofs.YtdijcdadcbhipaaDoor
open Go.RowKit
def DrawRR (w : World) (e : Ending) (w' : World) : Prop := ∃ (v u x : Value) (f : List RCol) (cs : List RChg) (i j : Int) (r : List RVal), e = .returned (.tuple #[v, u, .int .i64 i, .int .i64 j, x]) ∧ Recs cEnc 4 w' v f ∧ Recs hEnc 6 w' u cs ∧ Recs vEnc 3 w' x r ∧ (∀ x ∈ f, genV x.d) ∧ (∀ c ∈ cs, genV c.c.d) ∧ (∀ x ∈ r, genV x) ∧ f.length ≤ 6 ∧ cs.length ≤ 9 ∧ r.length ≤ 6 ∧ Below w.heap.size w w'
theorem CRes.below {w wi wj : World} {g : Nat} {v u : Value} {f : List RCol} {cs : List RChg} {p : Int} (h : CRes w wi g v f u cs p) (hb : Below wi.heap.size wi wj) : CRes w wj g v f u cs p :=
  h.by (grown_below hb _) (h.rd.keep hb h.rd.lt)
set_option maxHeartbeats 16000000 in
set_option maxRecDepth 100000 in
theorem drawReadRow_any (v : Value) (w : World) (h : BytesAt w v) :
    Calls Tryd.prog 48 #[v] w (DrawRR w) := by
  have HA := hide h
  obtain ⟨a, len, cap, rfl, h1, h2, -⟩ := h
  go_enter Tryd.func48, Tryd.ntmps48
  go_wp2_with fail
  with_reducible refine (newReader_any _ _ HA.out).mono ?_
  rintro e w1 ⟨g, rfl, hg, hR1, hb1⟩
  have R1 := hide hR1
  have H1 := hide hb1
  clear hR1 hb1 HA
  go_wp2_with fail
  with_reducible refine (anyChain_any g 0 _ R1.out (by omega) (by omega)).mono ?_
  rintro e w2 ⟨v2, u2, f, cs, q, rfl, hI, hl6, hl9, hq⟩
  have I2 := hide hI
  obtain ⟨fa, fc, rfl, hfc, hfc2⟩ := own_slc hI.own
  obtain ⟨ua, uc, rfl, huc, huc2⟩ := own_slc hI.lst
  have GF := hide hI.gen
  have GC := hide hI.genc
  have hglo := hI.lo
  have OKF : Hid (∀ x ∈ f, okC x) := fun x hx => genV_okC (GF.out x hx)
  have OKC : Hid (∀ c ∈ cs, okH c) := fun x hx => genV_okC (GC.out x hx)
  have hw1 : IntKind.i64.wrap ((cs.length : Int) + 1) = (cs.length : Int) + 1 := by rw [IntKind.wrap_i64]; omega
  clear hI R1
  go_wp2_with fail
  with_reducible refine (pick_any g q ((cs.length : Int) + 1) _ I2.out.rd (by omega)).mono ?_
  rintro e w3 ⟨t, rfl, ⟨ht0, ht1⟩, hR3, hg3⟩
  obtain ⟨A, rfl⟩ : ∃ A : Nat, t = (A : Int) := ⟨t.toNat, by omega⟩
  have hA : A ≤ cs.length := by have := ht1 (by omega); omega
  have I3 := hide (I2.out.by hg3 hR3)
  have hw2 : IntKind.i64.wrap ((cs.length : Int) + 1 - (A : Int)) = (cs.length : Int) + 1 - (A : Int) := by rw [IntKind.wrap_i64]; omega
  clear hR3 hg3 I2 ht1
  go_wp2_with fail
  with_reducible refine (pick_any g (q + 1) ((cs.length : Int) + 1 - (A : Int)) _ I3.out.rd (by omega)).mono ?_
  rintro e w4 ⟨t, rfl, ⟨hs0, hs1⟩, hR4, hg4⟩
  obtain ⟨N, rfl⟩ : ∃ N : Nat, t = (N : Int) := ⟨t.toNat, by omega⟩
  have hN : A + N ≤ cs.length := by have := hs1 (by omega); omega
  have I4 := hide (I3.out.by hg4 hR4)
  have hw3 : IntKind.i64.wrap ((A : Int) + (N : Int)) = (A : Int) + (N : Int) := by rw [IntKind.wrap_i64]; omega
  clear hR4 hg4 I3 hs1
  have F4 := hide (OwnC.itms I4.out.own)
  have U4 := hide (OwnR.recs hEnc_len I4.out.lst)
  go_wp2_with fail
  with_reducible refine (sChain_any _ _ f cs _ F4.out U4.out OKF.out OKC.out).mono ?_
  rintro e w5 ⟨hb5, hq5⟩
  have I5 := hide (I4.out.below hb5)
  have S5 := hide hb5.size
  have GW : Hid (g < w4.heap.size) := I4.out.rd.lt
  clear hb5 I4 F4 U4
  cases hR : chainL f cs with
  | none =>
    rw [hR] at hq5
    obtain rfl := hq5
    clear hR
    go_wp2_with fail
    with_reducible refine (anyRow_any g (q + 1 + 1) _ I5.out.rd (by omega) (by omega)).mono ?_
    rintro e w6 ⟨x6, r, q6, rfl, hI6, hl6', hq6⟩
    have I6 := hide (I5.out.by hI6.grown hI6.rd)
    have H6 := hide (below_of_grown H1.out I6.out.grown (by omega))
    have F6 := hide (OwnC.itms I6.out.own)
    have U6 := hide (OwnR.recs hEnc_len I6.out.lst)
    have X6 : Hid (Recs vEnc 3 w6 x6 r) := OwnR.recs vEnc_len hI6.own
    have GR := hide hI6.gen
    obtain ⟨xa, xc, rfl, -, -⟩ := own_slc hI6.own
    clear hI6 I5
    go_wp2_with fail
    all_goals go_tidy
    exact ⟨rfl, .tuple #[.slice fa f.length fc, .slice ua cs.length uc, .int .i64 (A : Int), .int .i64 ((A : Int) + (N : Int)), .slice xa r.length xc], by simp [results, Tryd.results48, go_sem], _, _, _, f, cs, _, _, r, rfl, F6.out, U6.out, X6.out, GF.out, GC.out, GR.out, hl6, hl9, hl6', H6.out⟩
  | some L =>
    rw [hR] at hq5
    obtain ⟨v5, rfl, ho5⟩ := hq5
    have hLL := chain_len hR
    have hAL : A < L.length := by omega
    have HF5 := hide ((fmt_len2 (chain_fmt hR A hAL)).2.1)
    obtain ⟨gb, gc, lv, rfl, hcell, hlo, -⟩ := ho5.leaf A hAL
    have HLO := hide hlo
    obtain ⟨la, lc, rfl, -, -⟩ := own_slc hlo
    obtain ⟨gL, hgL⟩ : ∃ x, L[A] = x := ⟨_, rfl⟩
    rw [hgL] at HLO HF5 hcell
    clear hR ho5 hlo hgL hLL
    go_wp2_with fail
    with_reducible refine (someRow_any g (q + 1 + 1) w4.heap.size _ gL _ I5.out.rd (by omega) (by omega) HLO.out GW.out (by have := HF5.out; omega)).mono ?_
    rintro e w6 ⟨x6, r, q6, rfl, hI6, hl6', hq6⟩
    have I6 := hide (I5.out.by hI6.grown hI6.rd)
    have J6 := hide hI6
    have GR := hide hI6.gen
    have S6 := hide hI6.size
    obtain ⟨xa, xc, rfl, -, -⟩ := own_slc hI6.own
    clear hI6 I5 hcell HLO
    go_wp2_with fail
    with_reducible refine (pick_any g q6 16 _ I6.out.rd (by omega)).mono ?_
    rintro e w7 ⟨t, rfl, -, hR7, hg7⟩
    have I7 := hide (I6.out.by hg7 hR7)
    have J7 := hide (J6.out.by hg7 hR7)
    clear hR7 hg7 I6 J6
    have hw4 : IntKind.i64.wrap ((A : Int) + (N : Int) + 1) = (A : Int) + (N : Int) + 1 := by rw [IntKind.wrap_i64]; omega
    by_cases t0 : t = 0
    · subst t0
      go_wp2_with fail
      refine (one_lit g (q6 + 1) _ 2 _ [-1, (A : Int) + (N : Int) + 1] _ (I7.out.rd.alloc _) (by omega) (blk_alloc _ _) (by have := I7.out.rd.lt; omega) (by simp) (by simp)).mono ?_
      rintro e w8 ⟨y, rfl, -, hR8, hg8⟩
      have I8 := hide (I7.out.by (grown_trans (grown_alloc (World.grownBy.refl _ _) _) hg8) hR8)
      have J8 := hide (J7.out.by (grown_trans (grown_alloc (World.grownBy.refl _ _) _) hg8) hR8)
      have H8 := hide (below_of_grown H1.out I8.out.grown (by omega))
      have F8 := hide (OwnC.itms I8.out.own)
      have U8 := hide (OwnR.recs hEnc_len I8.out.lst)
      have X8 : Hid (Recs vEnc 3 w8 (.slice xa r.length xc) r) := OwnR.recs vEnc_len J8.out.own
      clear hR8 hg8 I7 J7 I8 J8
      go_wp2_with fail
      all_goals go_tidy
      exact ⟨rfl, .tuple #[.slice fa f.length fc, .slice ua cs.length uc, .int .i64 y, .int .i64 ((A : Int) + (N : Int)), .slice xa r.length xc], by simp [results, Tryd.results48, go_sem], _, _, _, f, cs, _, _, r, rfl, F8.out, U8.out, X8.out, GF.out, GC.out, GR.out, hl6, hl9, hl6', H8.out⟩
    obtain ⟨d0, d0'⟩ := i64_neq t0
    by_cases t1 : t = 1
    · subst t1
      go_wp2_with fail
      with_reducible refine (pick_any g (q6 + 1) 2 _ I7.out.rd (by omega)).mono ?_
      rintro e w8 ⟨y, rfl, ⟨hy0, hy1⟩, hR8, hg8⟩
      have hy2 := hy1 (by omega)
      have hw5 : IntKind.i64.wrap ((cs.length : Int) + y) = (cs.length : Int) + y := by rw [IntKind.wrap_i64]; omega
      have I8 := hide (I7.out.by hg8 hR8)
      have J8 := hide (J7.out.by hg8 hR8)
      have H8 := hide (below_of_grown H1.out I8.out.grown (by omega))
      have F8 := hide (OwnC.itms I8.out.own)
      have U8 := hide (OwnR.recs hEnc_len I8.out.lst)
      have X8 : Hid (Recs vEnc 3 w8 (.slice xa r.length xc) r) := OwnR.recs vEnc_len J8.out.own
      clear hR8 hg8 I7 J7 I8 J8 hy1
      go_wp2_with fail
      all_goals go_tidy
      exact ⟨rfl, .tuple #[.slice fa f.length fc, .slice ua cs.length uc, .int .i64 (A : Int), .int .i64 ((cs.length : Int) + y), .slice xa r.length xc], by simp [results, Tryd.results48, go_sem], _, _, _, f, cs, _, _, r, rfl, F8.out, U8.out, X8.out, GF.out, GC.out, GR.out, hl6, hl9, hl6', H8.out⟩
    obtain ⟨d1, d1'⟩ := i64_neq t1
    have H8 := hide (below_of_grown H1.out I7.out.grown (by omega))
    have F8 := hide (OwnC.itms I7.out.own)
    have U8 := hide (OwnR.recs hEnc_len I7.out.lst)
    have X8 : Hid (Recs vEnc 3 w7 (.slice xa r.length xc) r) := OwnR.recs vEnc_len J7.out.own
    clear I7 J7
    go_wp2_with fail
    all_goals go_tidy
    exact ⟨rfl, .tuple #[.slice fa f.length fc, .slice ua cs.length uc, .int .i64 (A : Int), .int .i64 ((A : Int) + (N : Int)), .slice xa r.length xc], by simp [results, Tryd.results48, go_sem], _, _, _, f, cs, _, _, r, rfl, F8.out, U8.out, X8.out, GF.out, GC.out, GR.out, hl6, hl9, hl6', H8.out⟩
end Go.Proofs.YtdijcdadcbhipaaDoor
