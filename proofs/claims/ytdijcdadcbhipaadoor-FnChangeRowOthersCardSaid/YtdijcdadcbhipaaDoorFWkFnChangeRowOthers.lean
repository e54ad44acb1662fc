/-
  The walk of FnChangeRowOthers.
-/
import Derived.Test.YtdijcdadcbhipaaDoorFG9
import Derived.Test.YtdijcdadcbhipaaDoorFPl3
import Derived.Test.YtdijcdadcbhipaaDoorFEq
set_option linter.all false
namespace Go.Proofs.YtdijcdadcbhipaaDoor
open Go.RowKit
set_option maxHeartbeats 16000000 in
set_option maxRecDepth 100000 in
theorem fnChangeRowOthers_walk (v : Value) (w : World) (h : BytesAt w v) (ht : Tab w) :
    Calls Tryd.prog 8 #[v] w fun e w' => e = .returned (.bool true) ∧ Below w.heap.size w w' := by
  have HB := hide h
  obtain ⟨a, len, cap0, rfl, hlc, hcap0, -⟩ := h
  by_cases hlen : 1048576 < len
  · go_enter Tryd.func8, Tryd.ntmps8
    go_wp2_with fail
    go_ret
    exact ⟨rfl, Below.refl _ _⟩
  go_enter Tryd.func8, Tryd.ntmps8
  go_wp2_with fail
  with_reducible refine (drawChangeRow_any _ _ HB.out).mono ?_
  rintro e w1 ⟨v1, u1, f, r, c, rfl, hf1, hr1, hgf, hgr, hgc, hl6, hr6, hb1⟩
  have H1 := hide hb1
  have F1 := hide hf1
  have R1 := hide hr1
  have OKF : Hid (∀ x ∈ f, okC x) := fun x hx => genV_okC (hgf x hx)
  have OKR : Hid (∀ x ∈ r, okV x) := fun x hx => by have := (hgr x hx).1; unfold okV; omega
  have OKC : Hid (okC c.c) := genV_okC hgc
  have HX := hide (blk_alloc w1 (.cells #[.int .i64 c.k, .int .i64 c.a, .int .i64 c.c.k, .int .i64 c.c.d.k, .int .i64 c.c.d.n, .string c.c.d.s] 29))
  have HBX := hide (below_box w1 (.cells #[.int .i64 c.k, .int .i64 c.a, .int .i64 c.c.k, .int .i64 c.c.d.k, .int .i64 c.c.d.n, .string c.c.d.s] 29))
  have H2 : Hid (Below w.heap.size w (w1.alloc (.cells #[.int .i64 c.k, .int .i64 c.a, .int .i64 c.c.k, .int .i64 c.c.d.k, .int .i64 c.c.d.n, .string c.c.d.s] 29))) := H1.out.trans (HBX.out.mono H1.out.size)
  have F2 := hide (F1.out.keep HBX.out)
  have R2 := hide (R1.out.keep HBX.out)
  clear hb1 hf1 hr1 hgf hgr hgc HB hl6 hr6
  go_wp2_with fail
  with_reducible refine (iRow_any c _ _ f r _ F2.out R2.out (ht.keep H2.out)).mono ?_
  rintro e w3 ⟨hb3, hq3⟩
  have H3 : Hid (Below w.heap.size w w3) := H2.out.trans (hb3.mono H2.out.size)
  have F3 := hide (F2.out.keep hb3)
  have R3 := hide (R2.out.keep hb3)
  have X3 := hide (blk_own hb3 HX.out)
  clear hb3 HX HBX
  cases hR : chR f r c with
  | none =>
    rw [hR] at hq3
    obtain rfl := hq3
    obtain ⟨⟨c0, c1, c2, c3, c4, c5⟩, -⟩ := cells6 X3.out
    have HR := hide hR
    clear hR
    go_wp2_with fail
    with_reducible refine (sRow_any c _ _ f r _ F3.out R3.out OKF.out OKR.out OKC.out).mono ?_
    rintro e w4 ⟨hb4, hq4⟩
    have H4 : Hid (Below w.heap.size w w4) := H3.out.trans (hb4.mono H3.out.size)
    rw [HR.out] at hq4
    obtain rfl := hq4
    clear hb4 c0 c1 c2 c3 c4 c5
    go_wp2_with fail
    with_reducible refine (eqV_same _ _ [] _ (recs_nil _) (recs_nil _)).mono ?_
    rintro e w5 ⟨rfl, hb5⟩
    have H5 : Hid (Below w.heap.size w w5) := H4.out.trans (hb5.mono H4.out.size)
    clear hb5
    go_wp2_with fail
    with_reducible refine (eqV_same _ _ [] _ (recs_nil _) (recs_nil _)).mono ?_
    rintro e w6 ⟨rfl, hb6⟩
    have H6 : Hid (Below w.heap.size w w6) := H5.out.trans (hb6.mono H5.out.size)
    clear hb6
    go_wp2_with fail
    go_ret
    exact ⟨rfl, H6.out⟩
  | some G =>
    rw [hR] at hq3
    obtain ⟨v3, rfl, ho3⟩ := hq3
    have HR := hide hR
    have G3 := hide (OwnR.recs vEnc_len ho3)
    obtain ⟨qfi, qpo, qG⟩ := chR_some hR
    have hfi := hide qfi
    have hpo := hide qpo
    have hGv := hide (show fitB (newC f c) G = true by rw [qG]; exact fit_new qfi qpo)
    have hG := hide qG
    clear qfi qpo qG
    obtain ⟨gg, gc, rfl, hgg1, hgg2, hgg3, hgg4⟩ := OwnR.at ho3 (fit_of hGv.out).1
    have hG5 := (fit_of hGv.out).2.1
    obtain ⟨⟨c0, c1, c2, c3, c4, c5⟩, -⟩ := cells6 X3.out
    clear hR ho3
    go_wp2_with fail
    with_reducible refine (sRow_any c _ _ f r _ F3.out R3.out OKF.out OKR.out OKC.out).mono ?_
    rintro e w4 ⟨hb4, hq4⟩
    have H4 : Hid (Below w.heap.size w w4) := H3.out.trans (hb4.mono H3.out.size)
    rw [HR.out] at hq4
    obtain ⟨v4, rfl, ho4⟩ := hq4
    have R4 := hide (R3.out.keep hb4)
    have G4 := hide (G3.out.keep hb4)
    have K4 := hide (OwnR.recs vEnc_len ho4)
    have X4 := hide (blk_own hb4 X3.out)
    clear hb4 ho4 c0 c1 c2 c3 c4 c5
    go_wp2_with fail
    with_reducible refine (eqV_same _ _ G _ G4.out K4.out).mono ?_
    rintro e w5 ⟨rfl, hb5⟩
    have H5 : Hid (Below w.heap.size w w5) := H4.out.trans (hb5.mono H4.out.size)
    have R5 := hide (R4.out.keep hb5)
    have G5 := hide (G4.out.keep hb5)
    have X5 := hide (blk_own hb5 X4.out)
    obtain ⟨⟨c0, c1, c2, c3, c4, c5⟩, -⟩ := cells6 X5.out
    obtain ⟨i, hi, hil, hcase⟩ := pos_at hpo.out
    have hrf := hide (fit_of hfi.out)
    have hir : i ≤ r.length := by have := hrf.out.2.2.1; omega
    clear hb5
    obtain ⟨rb, roff, rc, hv1, hrc1, hrc2⟩ := R5.out.at hrf.out.1
    subst hv1
    have c1i := c1
    rw [hi] at c1
    clear c1i
    rcases hcase with ⟨hk, h5, hcc, e⟩ | ⟨hk, hlt, h2, e⟩ | ⟨hk, hlt, hk1, e⟩
    · rw [hk] at c0
      have hti : c.a.toNat = i := by omega
      have er : newR r c = r.take i ++ [c.c.d] ++ r.drop i := by unfold newR; rw [if_pos hk, hti]
      have hdd : G.drop (i + 1) = r.drop i := by rw [hG.out, er, List.append_assoc]; exact drop_app r _ i 1 hir
      have hGt : G.take i = r.take i := by rw [hG.out, er, List.append_assoc]; exact take_app r _ i hir
      have hGl : G.length = r.length + 1 := by rw [hG.out, er]; simp; omega
      have hal : (i + 1) ≤ G.length := by omega
      have hbl : i ≤ r.length := by omega
      have hw1 : IntKind.i64.wrap ((i : Int) + 1) = (i : Int) + 1 := by rw [IntKind.wrap_i64]; omega
      have htn : ((i : Int) + 1).toNat = i + 1 := by omega
      have q0 : (0 : Int) ≤ (i : Int) + 1 := by omega
      have q1 : (((i : Int) + 1)) ≤ (G.length : Int) := by omega
      have q2 : ((i : Int)) ≤ (r.length : Int) := by omega
      have hig : i ≤ gc := by omega
      have hif : i ≤ rc := by omega
      have HGL := hide hGl
      clear hGl er hti
      by_cases hA : gc = (i + 1)
      · by_cases hB : rc = i
        · have EE := hide (fun z : BW w5 => eqV_same (.slice (some ⟨gg, 0, none⟩) 0 0) (.slice (some ⟨rb, roff, none⟩) 0 0) (r.drop i) z.v (by
                have := (G5.out.keep z.h).drop0 (i + 1) hal hA
                rw [show G.length - (i + 1) = 0 by omega, show gc - (i + 1) = 0 by omega, hdd] at this
                exact this) (by
                have := (R5.out.keep z.h).drop0 i hbl hB
                rw [show r.length - i = 0 by omega, show rc - i = 0 by omega] at this
                exact this))
          have E1 := hide (fun z : BW w5 => eqV_same (.slice (some ⟨gg, 0, none⟩) i gc) (.slice (some ⟨rb, roff, none⟩) i rc) (r.take i) z.v (by have := (G5.out.keep z.h).take i (by omega); rw [hGt] at this; exact this) ((R5.out.keep z.h).take i (by omega)))
          clear hdd hGt
          subst hA
          have hB' := hB.symm
          subst hB'
          have z0 := fun z : BW w5 => bw_cell (p := ⟨w1.heap.size, 0, none⟩) (lt_block X5.out) c0 z
          have z1 := fun z : BW w5 => bw_cell (p := ⟨w1.heap.size, 1, none⟩) (lt_block X5.out) c1 z
          clear hG hpo hfi hGv hrf HR OKF OKR OKC F1 F2 F3 R1 R2 R3 R4 R5 G3 G4 G5 K4 X3 X4 H1 H2 H3 H4 e
          go_wp2_with fail
          refine wp_region_bw (by kernel_rfl) (by kernel_rfl) ?_
          repeat (go_big_quiet_step (first | (go_at_call 34; with_reducible exact bw_of (E1.out _)) | (go_at_call 34; with_reducible exact bw_of (EE.out _))))
          refine wpQuiet_nil ?_
          rintro _ ⟨z, rfl⟩
          have H6 : Hid (Below w.heap.size w z.v) := H5.out.trans (z.h.mono H5.out.size)
          clear z0 z1
          go_wp2_with fail
          go_ret
          exact ⟨rfl, H6.out⟩
        · have EE := hide (fun z : BW w5 => eqV_same (.slice (some ⟨gg, 0, none⟩) 0 0) (.slice (some ⟨rb, roff + i * 3, none⟩) (r.length - i) (rc - i)) (r.drop i) z.v (by
                have := (G5.out.keep z.h).drop0 (i + 1) hal hA
                rw [show G.length - (i + 1) = 0 by omega, show gc - (i + 1) = 0 by omega, hdd] at this
                exact this) ((R5.out.keep z.h).drop i hbl))
          have E1 := hide (fun z : BW w5 => eqV_same (.slice (some ⟨gg, 0, none⟩) i gc) (.slice (some ⟨rb, roff, none⟩) i rc) (r.take i) z.v (by have := (G5.out.keep z.h).take i (by omega); rw [hGt] at this; exact this) ((R5.out.keep z.h).take i (by omega)))
          clear hdd hGt
          subst hA
          have z0 := fun z : BW w5 => bw_cell (p := ⟨w1.heap.size, 0, none⟩) (lt_block X5.out) c0 z
          have z1 := fun z : BW w5 => bw_cell (p := ⟨w1.heap.size, 1, none⟩) (lt_block X5.out) c1 z
          clear hG hpo hfi hGv hrf HR OKF OKR OKC F1 F2 F3 R1 R2 R3 R4 R5 G3 G4 G5 K4 X3 X4 H1 H2 H3 H4 e
          go_wp2_with fail
          refine wp_region_bw (by kernel_rfl) (by kernel_rfl) ?_
          repeat (go_big_quiet_step (first | (go_at_call 34; with_reducible exact bw_of (E1.out _)) | (go_at_call 34; with_reducible exact bw_of (EE.out _))))
          refine wpQuiet_nil ?_
          rintro _ ⟨z, rfl⟩
          have H6 : Hid (Below w.heap.size w z.v) := H5.out.trans (z.h.mono H5.out.size)
          clear z0 z1
          go_wp2_with fail
          go_ret
          exact ⟨rfl, H6.out⟩
      · by_cases hB : rc = i
        · have EE := hide (fun z : BW w5 => eqV_same (.slice (some ⟨gg, (i + 1) * 3, none⟩) (G.length - (i + 1)) (gc - (i + 1))) (.slice (some ⟨rb, roff, none⟩) 0 0) (r.drop i) z.v (by
                have := (G5.out.keep z.h).drop (i + 1) hal
                rw [hdd, Nat.zero_add] at this
                exact this) (by
                have := (R5.out.keep z.h).drop0 i hbl hB
                rw [show r.length - i = 0 by omega, show rc - i = 0 by omega] at this
                exact this))
          have E1 := hide (fun z : BW w5 => eqV_same (.slice (some ⟨gg, 0, none⟩) i gc) (.slice (some ⟨rb, roff, none⟩) i rc) (r.take i) z.v (by have := (G5.out.keep z.h).take i (by omega); rw [hGt] at this; exact this) ((R5.out.keep z.h).take i (by omega)))
          clear hdd hGt
          have hB' := hB.symm
          subst hB'
          have z0 := fun z : BW w5 => bw_cell (p := ⟨w1.heap.size, 0, none⟩) (lt_block X5.out) c0 z
          have z1 := fun z : BW w5 => bw_cell (p := ⟨w1.heap.size, 1, none⟩) (lt_block X5.out) c1 z
          clear hG hpo hfi hGv hrf HR OKF OKR OKC F1 F2 F3 R1 R2 R3 R4 R5 G3 G4 G5 K4 X3 X4 H1 H2 H3 H4 e
          go_wp2_with fail
          refine wp_region_bw (by kernel_rfl) (by kernel_rfl) ?_
          repeat (go_big_quiet_step (first | (go_at_call 34; with_reducible exact bw_of (E1.out _)) | (go_at_call 34; with_reducible exact bw_of (EE.out _))))
          refine wpQuiet_nil ?_
          rintro _ ⟨z, rfl⟩
          have H6 : Hid (Below w.heap.size w z.v) := H5.out.trans (z.h.mono H5.out.size)
          clear z0 z1
          go_wp2_with fail
          go_ret
          exact ⟨rfl, H6.out⟩
        · have EE := hide (fun z : BW w5 => eqV_same (.slice (some ⟨gg, (i + 1) * 3, none⟩) (G.length - (i + 1)) (gc - (i + 1))) (.slice (some ⟨rb, roff + i * 3, none⟩) (r.length - i) (rc - i)) (r.drop i) z.v (by
                have := (G5.out.keep z.h).drop (i + 1) hal
                rw [hdd, Nat.zero_add] at this
                exact this) ((R5.out.keep z.h).drop i hbl))
          have E1 := hide (fun z : BW w5 => eqV_same (.slice (some ⟨gg, 0, none⟩) i gc) (.slice (some ⟨rb, roff, none⟩) i rc) (r.take i) z.v (by have := (G5.out.keep z.h).take i (by omega); rw [hGt] at this; exact this) ((R5.out.keep z.h).take i (by omega)))
          clear hdd hGt
          have z0 := fun z : BW w5 => bw_cell (p := ⟨w1.heap.size, 0, none⟩) (lt_block X5.out) c0 z
          have z1 := fun z : BW w5 => bw_cell (p := ⟨w1.heap.size, 1, none⟩) (lt_block X5.out) c1 z
          clear hG hpo hfi hGv hrf HR OKF OKR OKC F1 F2 F3 R1 R2 R3 R4 R5 G3 G4 G5 K4 X3 X4 H1 H2 H3 H4 e
          go_wp2_with fail
          refine wp_region_bw (by kernel_rfl) (by kernel_rfl) ?_
          repeat (go_big_quiet_step (first | (go_at_call 34; with_reducible exact bw_of (E1.out _)) | (go_at_call 34; with_reducible exact bw_of (EE.out _))))
          refine wpQuiet_nil ?_
          rintro _ ⟨z, rfl⟩
          have H6 : Hid (Below w.heap.size w z.v) := H5.out.trans (z.h.mono H5.out.size)
          clear z0 z1
          go_wp2_with fail
          go_ret
          exact ⟨rfl, H6.out⟩
    · rw [hk] at c0
      have hti : c.a.toNat = i := by omega
      have hlr : i < r.length := by have := hrf.out.2.2.1; omega
      have er : newR r c = r.take i ++ r.drop (i + 1) := by unfold newR; rw [if_neg (by omega), if_pos hk, hti]
      have hdd : G.drop i = r.drop (i + 1) := by rw [hG.out, er]; exact drop_app r _ i 0 hir
      have hGt : G.take i = r.take i := by rw [hG.out, er]; exact take_app r _ i hir
      have hGl : G.length = r.length - 1 := by rw [hG.out, er]; simp; omega
      have hal : i ≤ G.length := by omega
      have hbl : (i + 1) ≤ r.length := by omega
      have hw1 : IntKind.i64.wrap ((i : Int) + 1) = (i : Int) + 1 := by rw [IntKind.wrap_i64]; omega
      have htn : ((i : Int) + 1).toNat = i + 1 := by omega
      have q0 : (0 : Int) ≤ (i : Int) + 1 := by omega
      have q1 : ((i : Int)) ≤ (G.length : Int) := by omega
      have q2 : (((i : Int) + 1)) ≤ (r.length : Int) := by omega
      have hig : i ≤ gc := by omega
      have hif : i ≤ rc := by omega
      have HGL := hide hGl
      clear hGl er hti
      by_cases hA : gc = i
      · by_cases hB : rc = (i + 1)
        · have EE := hide (fun z : BW w5 => eqV_same (.slice (some ⟨gg, 0, none⟩) 0 0) (.slice (some ⟨rb, roff, none⟩) 0 0) (r.drop (i + 1)) z.v (by
                have := (G5.out.keep z.h).drop0 i hal hA
                rw [show G.length - i = 0 by omega, show gc - i = 0 by omega, hdd] at this
                exact this) (by
                have := (R5.out.keep z.h).drop0 (i + 1) hbl hB
                rw [show r.length - (i + 1) = 0 by omega, show rc - (i + 1) = 0 by omega] at this
                exact this))
          have E1 := hide (fun z : BW w5 => eqV_same (.slice (some ⟨gg, 0, none⟩) i gc) (.slice (some ⟨rb, roff, none⟩) i rc) (r.take i) z.v (by have := (G5.out.keep z.h).take i (by omega); rw [hGt] at this; exact this) ((R5.out.keep z.h).take i (by omega)))
          clear hdd hGt
          have hA' := hA.symm
          subst hA'
          subst hB
          have z0 := fun z : BW w5 => bw_cell (p := ⟨w1.heap.size, 0, none⟩) (lt_block X5.out) c0 z
          have z1 := fun z : BW w5 => bw_cell (p := ⟨w1.heap.size, 1, none⟩) (lt_block X5.out) c1 z
          clear hG hpo hfi hGv hrf HR OKF OKR OKC F1 F2 F3 R1 R2 R3 R4 R5 G3 G4 G5 K4 X3 X4 H1 H2 H3 H4 e
          go_wp2_with fail
          refine wp_region_bw (by kernel_rfl) (by kernel_rfl) ?_
          repeat (go_big_quiet_step (first | (go_at_call 34; with_reducible exact bw_of (E1.out _)) | (go_at_call 34; with_reducible exact bw_of (EE.out _))))
          refine wpQuiet_nil ?_
          rintro _ ⟨z, rfl⟩
          have H6 : Hid (Below w.heap.size w z.v) := H5.out.trans (z.h.mono H5.out.size)
          clear z0 z1
          go_wp2_with fail
          go_ret
          exact ⟨rfl, H6.out⟩
        · have EE := hide (fun z : BW w5 => eqV_same (.slice (some ⟨gg, 0, none⟩) 0 0) (.slice (some ⟨rb, roff + (i + 1) * 3, none⟩) (r.length - (i + 1)) (rc - (i + 1))) (r.drop (i + 1)) z.v (by
                have := (G5.out.keep z.h).drop0 i hal hA
                rw [show G.length - i = 0 by omega, show gc - i = 0 by omega, hdd] at this
                exact this) ((R5.out.keep z.h).drop (i + 1) hbl))
          have E1 := hide (fun z : BW w5 => eqV_same (.slice (some ⟨gg, 0, none⟩) i gc) (.slice (some ⟨rb, roff, none⟩) i rc) (r.take i) z.v (by have := (G5.out.keep z.h).take i (by omega); rw [hGt] at this; exact this) ((R5.out.keep z.h).take i (by omega)))
          clear hdd hGt
          have hA' := hA.symm
          subst hA'
          have z0 := fun z : BW w5 => bw_cell (p := ⟨w1.heap.size, 0, none⟩) (lt_block X5.out) c0 z
          have z1 := fun z : BW w5 => bw_cell (p := ⟨w1.heap.size, 1, none⟩) (lt_block X5.out) c1 z
          clear hG hpo hfi hGv hrf HR OKF OKR OKC F1 F2 F3 R1 R2 R3 R4 R5 G3 G4 G5 K4 X3 X4 H1 H2 H3 H4 e
          go_wp2_with fail
          refine wp_region_bw (by kernel_rfl) (by kernel_rfl) ?_
          repeat (go_big_quiet_step (first | (go_at_call 34; with_reducible exact bw_of (E1.out _)) | (go_at_call 34; with_reducible exact bw_of (EE.out _))))
          refine wpQuiet_nil ?_
          rintro _ ⟨z, rfl⟩
          have H6 : Hid (Below w.heap.size w z.v) := H5.out.trans (z.h.mono H5.out.size)
          clear z0 z1
          go_wp2_with fail
          go_ret
          exact ⟨rfl, H6.out⟩
      · by_cases hB : rc = (i + 1)
        · have EE := hide (fun z : BW w5 => eqV_same (.slice (some ⟨gg, i * 3, none⟩) (G.length - i) (gc - i)) (.slice (some ⟨rb, roff, none⟩) 0 0) (r.drop (i + 1)) z.v (by
                have := (G5.out.keep z.h).drop i hal
                rw [hdd, Nat.zero_add] at this
                exact this) (by
                have := (R5.out.keep z.h).drop0 (i + 1) hbl hB
                rw [show r.length - (i + 1) = 0 by omega, show rc - (i + 1) = 0 by omega] at this
                exact this))
          have E1 := hide (fun z : BW w5 => eqV_same (.slice (some ⟨gg, 0, none⟩) i gc) (.slice (some ⟨rb, roff, none⟩) i rc) (r.take i) z.v (by have := (G5.out.keep z.h).take i (by omega); rw [hGt] at this; exact this) ((R5.out.keep z.h).take i (by omega)))
          clear hdd hGt
          subst hB
          have z0 := fun z : BW w5 => bw_cell (p := ⟨w1.heap.size, 0, none⟩) (lt_block X5.out) c0 z
          have z1 := fun z : BW w5 => bw_cell (p := ⟨w1.heap.size, 1, none⟩) (lt_block X5.out) c1 z
          clear hG hpo hfi hGv hrf HR OKF OKR OKC F1 F2 F3 R1 R2 R3 R4 R5 G3 G4 G5 K4 X3 X4 H1 H2 H3 H4 e
          go_wp2_with fail
          refine wp_region_bw (by kernel_rfl) (by kernel_rfl) ?_
          repeat (go_big_quiet_step (first | (go_at_call 34; with_reducible exact bw_of (E1.out _)) | (go_at_call 34; with_reducible exact bw_of (EE.out _))))
          refine wpQuiet_nil ?_
          rintro _ ⟨z, rfl⟩
          have H6 : Hid (Below w.heap.size w z.v) := H5.out.trans (z.h.mono H5.out.size)
          clear z0 z1
          go_wp2_with fail
          go_ret
          exact ⟨rfl, H6.out⟩
        · have EE := hide (fun z : BW w5 => eqV_same (.slice (some ⟨gg, i * 3, none⟩) (G.length - i) (gc - i)) (.slice (some ⟨rb, roff + (i + 1) * 3, none⟩) (r.length - (i + 1)) (rc - (i + 1))) (r.drop (i + 1)) z.v (by
                have := (G5.out.keep z.h).drop i hal
                rw [hdd, Nat.zero_add] at this
                exact this) ((R5.out.keep z.h).drop (i + 1) hbl))
          have E1 := hide (fun z : BW w5 => eqV_same (.slice (some ⟨gg, 0, none⟩) i gc) (.slice (some ⟨rb, roff, none⟩) i rc) (r.take i) z.v (by have := (G5.out.keep z.h).take i (by omega); rw [hGt] at this; exact this) ((R5.out.keep z.h).take i (by omega)))
          clear hdd hGt
          have z0 := fun z : BW w5 => bw_cell (p := ⟨w1.heap.size, 0, none⟩) (lt_block X5.out) c0 z
          have z1 := fun z : BW w5 => bw_cell (p := ⟨w1.heap.size, 1, none⟩) (lt_block X5.out) c1 z
          clear hG hpo hfi hGv hrf HR OKF OKR OKC F1 F2 F3 R1 R2 R3 R4 R5 G3 G4 G5 K4 X3 X4 H1 H2 H3 H4 e
          go_wp2_with fail
          refine wp_region_bw (by kernel_rfl) (by kernel_rfl) ?_
          repeat (go_big_quiet_step (first | (go_at_call 34; with_reducible exact bw_of (E1.out _)) | (go_at_call 34; with_reducible exact bw_of (EE.out _))))
          refine wpQuiet_nil ?_
          rintro _ ⟨z, rfl⟩
          have H6 : Hid (Below w.heap.size w z.v) := H5.out.trans (z.h.mono H5.out.size)
          clear z0 z1
          go_wp2_with fail
          go_ret
          exact ⟨rfl, H6.out⟩
    · rw [hk] at c0
      have hti : c.a.toNat = i := by omega
      have hlr : i < r.length := by have := hrf.out.2.2.1; omega
      have er : newR r c = r.take i ++ [widV (r[i]'hlr)] ++ r.drop (i + 1) := by unfold newR; rw [if_neg (by omega), if_neg (by omega), hti, drop_one hlr]; rfl
      have hdd : G.drop (i + 1) = r.drop (i + 1) := by rw [hG.out, er, List.append_assoc]; exact drop_app r _ i 1 hir
      have hGt : G.take i = r.take i := by rw [hG.out, er, List.append_assoc]; exact take_app r _ i hir
      have hGl : G.length = r.length := by rw [hG.out, er]; simp; omega
      have hal : (i + 1) ≤ G.length := by omega
      have hbl : (i + 1) ≤ r.length := by omega
      have hw1 : IntKind.i64.wrap ((i : Int) + 1) = (i : Int) + 1 := by rw [IntKind.wrap_i64]; omega
      have htn : ((i : Int) + 1).toNat = i + 1 := by omega
      have q0 : (0 : Int) ≤ (i : Int) + 1 := by omega
      have q1 : (((i : Int) + 1)) ≤ (G.length : Int) := by omega
      have q2 : (((i : Int) + 1)) ≤ (r.length : Int) := by omega
      have hig : i ≤ gc := by omega
      have hif : i ≤ rc := by omega
      have HGL := hide hGl
      clear hGl er hti
      by_cases hA : gc = (i + 1)
      · by_cases hB : rc = (i + 1)
        · have EE := hide (fun z : BW w5 => eqV_same (.slice (some ⟨gg, 0, none⟩) 0 0) (.slice (some ⟨rb, roff, none⟩) 0 0) (r.drop (i + 1)) z.v (by
                have := (G5.out.keep z.h).drop0 (i + 1) hal hA
                rw [show G.length - (i + 1) = 0 by omega, show gc - (i + 1) = 0 by omega, hdd] at this
                exact this) (by
                have := (R5.out.keep z.h).drop0 (i + 1) hbl hB
                rw [show r.length - (i + 1) = 0 by omega, show rc - (i + 1) = 0 by omega] at this
                exact this))
          have E1 := hide (fun z : BW w5 => eqV_same (.slice (some ⟨gg, 0, none⟩) i gc) (.slice (some ⟨rb, roff, none⟩) i rc) (r.take i) z.v (by have := (G5.out.keep z.h).take i (by omega); rw [hGt] at this; exact this) ((R5.out.keep z.h).take i (by omega)))
          clear hdd hGt
          subst hA
          subst hB
          have z0 := fun z : BW w5 => bw_cell (p := ⟨w1.heap.size, 0, none⟩) (lt_block X5.out) c0 z
          have z1 := fun z : BW w5 => bw_cell (p := ⟨w1.heap.size, 1, none⟩) (lt_block X5.out) c1 z
          clear hG hpo hfi hGv hrf HR OKF OKR OKC F1 F2 F3 R1 R2 R3 R4 R5 G3 G4 G5 K4 X3 X4 H1 H2 H3 H4 e
          go_wp2_with fail
          refine wp_region_bw (by kernel_rfl) (by kernel_rfl) ?_
          repeat (go_big_quiet_step (first | (go_at_call 34; with_reducible exact bw_of (E1.out _)) | (go_at_call 34; with_reducible exact bw_of (EE.out _))))
          refine wpQuiet_nil ?_
          rintro _ ⟨z, rfl⟩
          have H6 : Hid (Below w.heap.size w z.v) := H5.out.trans (z.h.mono H5.out.size)
          clear z0 z1
          go_wp2_with fail
          go_ret
          exact ⟨rfl, H6.out⟩
        · have EE := hide (fun z : BW w5 => eqV_same (.slice (some ⟨gg, 0, none⟩) 0 0) (.slice (some ⟨rb, roff + (i + 1) * 3, none⟩) (r.length - (i + 1)) (rc - (i + 1))) (r.drop (i + 1)) z.v (by
                have := (G5.out.keep z.h).drop0 (i + 1) hal hA
                rw [show G.length - (i + 1) = 0 by omega, show gc - (i + 1) = 0 by omega, hdd] at this
                exact this) ((R5.out.keep z.h).drop (i + 1) hbl))
          have E1 := hide (fun z : BW w5 => eqV_same (.slice (some ⟨gg, 0, none⟩) i gc) (.slice (some ⟨rb, roff, none⟩) i rc) (r.take i) z.v (by have := (G5.out.keep z.h).take i (by omega); rw [hGt] at this; exact this) ((R5.out.keep z.h).take i (by omega)))
          clear hdd hGt
          subst hA
          have z0 := fun z : BW w5 => bw_cell (p := ⟨w1.heap.size, 0, none⟩) (lt_block X5.out) c0 z
          have z1 := fun z : BW w5 => bw_cell (p := ⟨w1.heap.size, 1, none⟩) (lt_block X5.out) c1 z
          clear hG hpo hfi hGv hrf HR OKF OKR OKC F1 F2 F3 R1 R2 R3 R4 R5 G3 G4 G5 K4 X3 X4 H1 H2 H3 H4 e
          go_wp2_with fail
          refine wp_region_bw (by kernel_rfl) (by kernel_rfl) ?_
          repeat (go_big_quiet_step (first | (go_at_call 34; with_reducible exact bw_of (E1.out _)) | (go_at_call 34; with_reducible exact bw_of (EE.out _))))
          refine wpQuiet_nil ?_
          rintro _ ⟨z, rfl⟩
          have H6 : Hid (Below w.heap.size w z.v) := H5.out.trans (z.h.mono H5.out.size)
          clear z0 z1
          go_wp2_with fail
          go_ret
          exact ⟨rfl, H6.out⟩
      · by_cases hB : rc = (i + 1)
        · have EE := hide (fun z : BW w5 => eqV_same (.slice (some ⟨gg, (i + 1) * 3, none⟩) (G.length - (i + 1)) (gc - (i + 1))) (.slice (some ⟨rb, roff, none⟩) 0 0) (r.drop (i + 1)) z.v (by
                have := (G5.out.keep z.h).drop (i + 1) hal
                rw [hdd, Nat.zero_add] at this
                exact this) (by
                have := (R5.out.keep z.h).drop0 (i + 1) hbl hB
                rw [show r.length - (i + 1) = 0 by omega, show rc - (i + 1) = 0 by omega] at this
                exact this))
          have E1 := hide (fun z : BW w5 => eqV_same (.slice (some ⟨gg, 0, none⟩) i gc) (.slice (some ⟨rb, roff, none⟩) i rc) (r.take i) z.v (by have := (G5.out.keep z.h).take i (by omega); rw [hGt] at this; exact this) ((R5.out.keep z.h).take i (by omega)))
          clear hdd hGt
          subst hB
          have z0 := fun z : BW w5 => bw_cell (p := ⟨w1.heap.size, 0, none⟩) (lt_block X5.out) c0 z
          have z1 := fun z : BW w5 => bw_cell (p := ⟨w1.heap.size, 1, none⟩) (lt_block X5.out) c1 z
          clear hG hpo hfi hGv hrf HR OKF OKR OKC F1 F2 F3 R1 R2 R3 R4 R5 G3 G4 G5 K4 X3 X4 H1 H2 H3 H4 e
          go_wp2_with fail
          refine wp_region_bw (by kernel_rfl) (by kernel_rfl) ?_
          repeat (go_big_quiet_step (first | (go_at_call 34; with_reducible exact bw_of (E1.out _)) | (go_at_call 34; with_reducible exact bw_of (EE.out _))))
          refine wpQuiet_nil ?_
          rintro _ ⟨z, rfl⟩
          have H6 : Hid (Below w.heap.size w z.v) := H5.out.trans (z.h.mono H5.out.size)
          clear z0 z1
          go_wp2_with fail
          go_ret
          exact ⟨rfl, H6.out⟩
        · have EE := hide (fun z : BW w5 => eqV_same (.slice (some ⟨gg, (i + 1) * 3, none⟩) (G.length - (i + 1)) (gc - (i + 1))) (.slice (some ⟨rb, roff + (i + 1) * 3, none⟩) (r.length - (i + 1)) (rc - (i + 1))) (r.drop (i + 1)) z.v (by
                have := (G5.out.keep z.h).drop (i + 1) hal
                rw [hdd, Nat.zero_add] at this
                exact this) ((R5.out.keep z.h).drop (i + 1) hbl))
          have E1 := hide (fun z : BW w5 => eqV_same (.slice (some ⟨gg, 0, none⟩) i gc) (.slice (some ⟨rb, roff, none⟩) i rc) (r.take i) z.v (by have := (G5.out.keep z.h).take i (by omega); rw [hGt] at this; exact this) ((R5.out.keep z.h).take i (by omega)))
          clear hdd hGt
          have z0 := fun z : BW w5 => bw_cell (p := ⟨w1.heap.size, 0, none⟩) (lt_block X5.out) c0 z
          have z1 := fun z : BW w5 => bw_cell (p := ⟨w1.heap.size, 1, none⟩) (lt_block X5.out) c1 z
          clear hG hpo hfi hGv hrf HR OKF OKR OKC F1 F2 F3 R1 R2 R3 R4 R5 G3 G4 G5 K4 X3 X4 H1 H2 H3 H4 e
          go_wp2_with fail
          refine wp_region_bw (by kernel_rfl) (by kernel_rfl) ?_
          repeat (go_big_quiet_step (first | (go_at_call 34; with_reducible exact bw_of (E1.out _)) | (go_at_call 34; with_reducible exact bw_of (EE.out _))))
          refine wpQuiet_nil ?_
          rintro _ ⟨z, rfl⟩
          have H6 : Hid (Below w.heap.size w z.v) := H5.out.trans (z.h.mono H5.out.size)
          clear z0 z1
          go_wp2_with fail
          go_ret
          exact ⟨rfl, H6.out⟩
end Go.Proofs.YtdijcdadcbhipaaDoor
