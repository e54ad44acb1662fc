/-
  The walk of FnChangeRow.
-/
import Derived.Test.YtdijcdadcbhipaaDoorFG9
import Derived.Test.YtdijcdadcbhipaaDoorFPl3
import Derived.Test.YtdijcdadcbhipaaDoorFEq
set_option linter.all false
namespace Go.Proofs.YtdijcdadcbhipaaDoor
open Go.RowKit
theorem RRet.uni2 {w w' : World} {o : Option (List RVal)} {e : Ending} (h : RRet w o e w') : ∃ v', e = .returned (.tuple #[v', .bool o.isSome]) ∧ Recs vEnc 3 w' v' (o.getD []) ∧ Below w.heap.size w w' := by
  obtain ⟨hb, hq⟩ := h
  cases o with
  | none => exact ⟨_, hq, recs_nil _, hb⟩
  | some g =>
    obtain ⟨v', h1, h2⟩ := hq
    exact ⟨v', h1, OwnR.recs vEnc_len h2, hb⟩
theorem CRet.uni2 {w w' : World} {o : Option (List RCol)} {e : Ending} (h : CRet w o e w') : ∃ v', e = .returned (.tuple #[v', .bool o.isSome]) ∧ Recs cEnc 4 w' v' (o.getD []) ∧ Below w.heap.size w w' := by
  obtain ⟨hb, hq⟩ := h
  cases o with
  | none => exact ⟨_, hq, recs_nil _, hb⟩
  | some g =>
    obtain ⟨v', h1, h2⟩ := hq
    exact ⟨v', h1, OwnR.recs cEnc_len h2, hb⟩
set_option maxHeartbeats 16000000 in
set_option maxRecDepth 100000 in
theorem fnChangeRow_walk (v : Value) (w : World) (h : BytesAt w v) (ht : Tab w) :
    Calls Tryd.prog 9 #[v] w fun e w' => e = .returned (.bool true) ∧ Below w.heap.size w w' := by
  have HB := hide h
  obtain ⟨a, len, cap0, rfl, hlc, hcap0, -⟩ := h
  by_cases hlen : 1048576 < len
  · go_enter Tryd.func9, Tryd.ntmps9
    go_wp2_with fail
    go_ret
    exact ⟨rfl, Below.refl _ _⟩
  go_enter Tryd.func9, Tryd.ntmps9
  go_wp2_with fail
  with_reducible refine (drawChangeRow_any _ _ HB.out).mono ?_
  rintro e w1 ⟨v1, u1, f, r, c, rfl, hf1, hr1, hgf, hgr, hgc, hl6, hr6, hb1⟩
  have H1 := hide hb1
  have F1 := hide hf1
  have R1 := hide hr1
  have OKF : Hid (∀ x ∈ f, okC x) := fun x hx => genV_okC (hgf x hx)
  have OKR : Hid (∀ x ∈ r, okV x) := fun x hx => by have := (hgr x hx).1; unfold okV; omega
  have OKC : Hid (okC c.c) := genV_okC hgc
  have HX := hide (blk_alloc w1 (.cells #[.int .i64 c.k, .int .i64 c.a, .int .i64 c.c.k, .int .i64 c.c.d.k, .int .i64 c.c.d.n, .string c.c.d.s] 29))
  have HBX := hide (below_box w1 (.cells #[.int .i64 c.k, .int .i64 c.a, .int .i64 c.c.k, .int .i64 c.c.d.k, .int .i64 c.c.d.n, .string c.c.d.s] 29))
  have H2 : Hid (Below w.heap.size w (w1.alloc (.cells #[.int .i64 c.k, .int .i64 c.a, .int .i64 c.c.k, .int .i64 c.c.d.k, .int .i64 c.c.d.n, .string c.c.d.s] 29))) := H1.out.trans (HBX.out.mono H1.out.size)
  have F2 := hide (F1.out.keep HBX.out)
  have R2 := hide (R1.out.keep HBX.out)
  clear hb1 hf1 hr1 hgf hgr hgc HB hl6 hr6
  go_wp2_with fail
  with_reducible refine (iRow_any c _ _ f r _ F2.out R2.out (ht.keep H2.out)).mono ?_
  rintro e w3 hq3
  obtain ⟨v3, rfl, ho3, hb3⟩ := hq3.uni2
  have H3 : Hid (Below w.heap.size w w3) := H2.out.trans (hb3.mono H2.out.size)
  have F3 := hide (F2.out.keep hb3)
  have R3 := hide (R2.out.keep hb3)
  have X3 := hide (blk_own hb3 HX.out)
  have O3 := hide ho3
  obtain ⟨⟨c0, c1, c2, c3, c4, c5⟩, -⟩ := cells6 X3.out
  obtain ⟨b, hb⟩ : ∃ b, (chR f r c).isSome = b := ⟨_, rfl⟩
  rw [hb]
  have HBB := hide hb
  have hbb : (b != b) = false := by simp
  clear hb3 ho3 hq3 hb HX HBX
  go_wp2_with fail
  with_reducible refine (sRow_any c _ _ f r _ F3.out R3.out OKF.out OKR.out OKC.out).mono ?_
  rintro e w4 hq4
  obtain ⟨v4, rfl, ho4, hb4⟩ := hq4.uni2
  rw [HBB.out]
  have H4 : Hid (Below w.heap.size w w4) := H3.out.trans (hb4.mono H3.out.size)
  have F4 := hide (F3.out.keep hb4)
  have R4 := hide (R3.out.keep hb4)
  have O4 := hide (O3.out.keep hb4)
  have P4 := hide ho4
  have X4 := hide (blk_own hb4 X3.out)
  clear hb4 ho4 hq4 c0 c1 c2 c3 c4 c5
  go_wp2_with fail
  with_reducible refine (eqV_same _ _ _ _ O4.out P4.out).mono ?_
  rintro e w5 ⟨rfl, hb5⟩
  have H5 : Hid (Below w.heap.size w w5) := H4.out.trans (hb5.mono H4.out.size)
  have F5 := hide (F4.out.keep hb5)
  have R5 := hide (R4.out.keep hb5)
  have O5 := hide (O4.out.keep hb5)
  have X5 := hide (blk_own hb5 X4.out)
  obtain ⟨⟨c0, c1, c2, c3, c4, c5⟩, -⟩ := cells6 X5.out
  clear hb5 P4 F1 F2 F3 F4 R1 R2 R3 R4 O3 O4 X3 X4 H1 H2 H3 H4
  go_wp2_with fail
  with_reducible refine (iChange_any c _ f _ F5.out (ht.keep H5.out)).mono ?_
  rintro e w6 hq6
  obtain ⟨v6, rfl, ho6, hb6⟩ := hq6.uni2
  have H6 : Hid (Below w.heap.size w w6) := H5.out.trans (hb6.mono H5.out.size)
  have F6 := hide (F5.out.keep hb6)
  have R6 := hide (R5.out.keep hb6)
  have O6 := hide (O5.out.keep hb6)
  have G6 := hide ho6
  have HC := hide (iRowFits_any _ _ f r w6 F6.out R6.out)
  clear hb6 ho6 hq6 c0 c1 c2 c3 c4 c5 hbb
  cases hR : chR f r c with
  | none =>
    have hb0 : b = false := by rw [← HBB.out, hR]; rfl
    subst hb0
    cases hG : chC f c with
    | none =>
      simp only [Option.isSome_none]
      clear hR hG
      go_wp2_with fail
      go_ret
      exact ⟨rfl, H6.out⟩
    | some G =>
      have hff := chR_none hR hG
      rw [hff] at HC
      simp only [Option.isSome_some]
      clear hR hG hff
      go_wp2_with fail
      with_reducible refine HC.out.mono ?_
      rintro e w7 ⟨rfl, hb7⟩
      have H7 : Hid (Below w.heap.size w w7) := H6.out.trans (hb7.mono H6.out.size)
      clear hb7
      go_wp2_with fail
      go_ret
      exact ⟨rfl, H7.out⟩
  | some g =>
    have hb0 : b = true := by rw [← HBB.out, hR]; rfl
    subst hb0
    obtain ⟨h1, h2, h3⟩ := chR_some hR
    have hG := chC_of h1 h2
    have hfn := fit_new h1 h2
    rw [h1] at HC
    have GG : Hid (Recs cEnc 4 w6 v6 (newC f c)) := by have := G6.out; rw [hG] at this; exact this
    have OO : Hid (Recs vEnc 3 w6 v3 (newR r c)) := by have := O6.out; rw [hR, h3] at this; exact this
    have FN := hide hfn
    rw [hG]
    simp only [Option.isSome_some]
    clear hR hG h1 h2 h3 hfn G6 O6
    go_wp2_with fail
    with_reducible refine HC.out.mono ?_
    rintro e w7 ⟨rfl, hb7⟩
    have H7 : Hid (Below w.heap.size w w7) := H6.out.trans (hb7.mono H6.out.size)
    have G7 := hide (GG.out.keep hb7)
    have O7 := hide (OO.out.keep hb7)
    clear hb7
    have HD := hide (iRowFits_any _ _ _ _ w7 G7.out O7.out)
    rw [FN.out] at HD
    go_wp2_with fail
    with_reducible refine HD.out.mono ?_
    rintro e w8 ⟨rfl, hb8⟩
    have H8 : Hid (Below w.heap.size w w8) := H7.out.trans (hb8.mono H7.out.size)
    clear hb8
    go_wp2_with fail
    go_ret
    exact ⟨rfl, H8.out⟩
end Go.Proofs.YtdijcdadcbhipaaDoor
