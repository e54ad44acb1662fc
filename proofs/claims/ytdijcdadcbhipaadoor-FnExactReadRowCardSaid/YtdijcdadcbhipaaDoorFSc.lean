/-
  copyColumns, change and ChangeFormat of the specification.
-/
import Derived.Test.YtdijcdadcbhipaaDoorFSc0
import Derived.RegionCalls
import Derived.Deep.RegionLaw
import Derived.Test.YtdijcdadcbhipaaDoorFR2
set_option linter.all false
namespace Go.Proofs.YtdijcdadcbhipaaDoor
open Go.RowKit
set_option maxHeartbeats 8000000 in
set_option maxRecDepth 100000 in
theorem schange_add (at' ck dk dn : Int) (s : ByteArray) (hs : s.size ≤ 9223372036854775807) (v : Value) (f : List RCol) (w : World) (h : Recs cEnc 4 w v f) (hf1 : 1 ≤ f.length) (hf5 : f.length ≤ 1000) :
    Calls Tryd.prog 60 #[v, .agg #[.int .i64 1, .int .i64 at', .int .i64 ck, .int .i64 dk, .int .i64 dn, .string s]] w (CRet w (if posB f ⟨1, at', ⟨ck, ⟨dk, dn, s⟩⟩⟩ then some (newC f ⟨1, at', ⟨ck, ⟨dk, dn, s⟩⟩⟩) else none)) := by
  obtain ⟨R, hR⟩ : ∃ R, R = (if posB f ⟨1, at', ⟨ck, ⟨dk, dn, s⟩⟩⟩ then some (newC f ⟨1, at', ⟨ck, ⟨dk, dn, s⟩⟩⟩) else none) := ⟨_, rfl⟩
  rw [← hR]
  have HB := hide (below_box w (.cells #[.int .i64 1, .int .i64 at', .int .i64 ck, .int .i64 dk, .int .i64 dn, .string s] 29))
  have HX := hide (blk_alloc w (.cells #[.int .i64 1, .int .i64 at', .int .i64 ck, .int .i64 dk, .int .i64 dn, .string s] 29))
  have HF0 := hide (h.keep HB.out)
  have HV := hide (fun w => svalidColumn_lit ck dk dn s w hs)
  obtain ⟨b, off, cap, rfl, hl, hcap⟩ := h.at hf1
  clear h
  by_cases q : 0 ≤ at' ∧ at' ≤ (f.length : Int)
  · have HI := hide (fun w => inRange_yes at' 0 (f.length : Int) w q.1 q.2)
    obtain ⟨i, rfl⟩ : ∃ i : Nat, at' = (i : Int) := ⟨at'.toNat, by omega⟩
    have hil : i ≤ f.length := by omega
    clear q
    cases hc : colB ⟨ck, ⟨dk, dn, s⟩⟩ with
    | false =>
      have HR : Hid (R = none) := by unfold Hid; rw [hR]; simp [posB, hc]
      rw [hc] at HV
      clear hR hc
      go_enter Tryd.func60, Tryd.ntmps60
      go_wp2_with fail
      with_reducible refine (HI.out _).mono ?_
      rintro e _ ⟨rfl, rfl⟩
      go_wp2_with fail
      with_reducible refine (HV.out _).mono ?_
      rintro e w2 ⟨rfl, hb2⟩
      have H2 := hide (HB.out.trans (hb2.mono HB.out.size))
      obtain ⟨⟨c0, c1, c2, c3, c4, c5⟩, -⟩ := cells6 (blk_own hb2 HX.out)
      clear hb2
      go_wp2_with fail
      all_goals go_tidy
      exact ⟨rfl, .tuple #[.slice none 0 0, .bool false], by simp [results, Tryd.results60, go_sem], H2.out, by rw [HR.out]⟩
    | true =>
      rw [hc] at HV
      by_cases l5 : f.length < 5
      · have HR : Hid (R = some (f.take i ++ [⟨ck, ⟨dk, dn, s⟩⟩] ++ f.drop i)) := by unfold Hid; rw [hR, if_pos (by simp [posB, hc, l5]; omega)]; simp [newC]
        clear hR hc
        go_enter Tryd.func60, Tryd.ntmps60
        go_wp2_with fail
        with_reducible refine (HI.out _).mono ?_
        rintro e _ ⟨rfl, rfl⟩
        go_wp2_with fail
        with_reducible refine (HV.out _).mono ?_
        rintro e w2 ⟨rfl, hb2⟩
        have H2 := hide (HB.out.trans (hb2.mono HB.out.size))
        have HF2 := hide (HF0.out.keep hb2)
        have HX2 := hide (blk_own hb2 HX.out)
        obtain ⟨⟨c0, c1, c2, c3, c4, c5⟩, -⟩ := cells6 HX2.out
        have hw2 : w.heap.size < w2.heap.size := lt_block HX2.out
        clear hb2 HV HI HB HX HF0
        have hic : i ≤ cap := by omega
        have HCP : Hid (∀ W, Below w2.heap.size w2 W → Calls Tryd.prog 89 #[.slice (some ⟨b, off, none⟩) i cap] W fun e w' => ∃ v', e = .returned v' ∧ OwnC w2.heap.size w' v' (f.take i) ∧ Below W.heap.size W w' ∧ Below w2.heap.size w2 w') := fun W hW =>
          (scopyC_any _ (f.take i) W ((HF2.out.keep hW).take i hil) (by simp; omega)).mono fun e w' ⟨v', h1, h2, h3⟩ => ⟨v', h1, OwnR.mono h2 hW.size, h3, hW.trans (h3.mono hW.size)⟩
        have HXX : Hid (∀ W, Below w2.heap.size w2 W → W.heap[w.heap.size]? = some (.cells #[.int .i64 1, .int .i64 (i : Int), .int .i64 ck, .int .i64 dk, .int .i64 dn, .string s] 29 (0, 0))) := fun W hW => blk_own hW HX2.out
        have HDD : Hid (∀ W, Below w2.heap.size w2 W → Recs cEnc 4 W (.slice (some ⟨b, off + i * 4, none⟩) (f.length - i) (cap - i)) (f.drop i)) := fun W hW => (HF2.out.keep hW).drop i hil
        have HD0 : Hid (cap = i → ∀ W, Below w2.heap.size w2 W → Recs cEnc 4 W (.slice (some ⟨b, off, none⟩) 0 0) (f.drop i)) := fun hc W hW => by
          have := (HF2.out.keep hW).drop0 i hil hc
          rw [show f.length - i = 0 by omega, show cap - i = 0 by omega] at this
          exact this
        by_cases hci : cap = i
        · have hcj := hci.symm
          subst hcj
          replace HD0 := hide (HD0.out rfl)
          go_upto_region 2 with fail
          go_region_law (first
            | (go_simp; go_at_call 89; (with_reducible refine (HCP.out _ (by first | exact (Below.refl _ _).drew | exact ((Below.refl _ _).alloc (Nat.le_refl _) _).drew)).mono ?_); rintro e z1 ⟨u1, rfl, ho1, hb1, hz1⟩; (have Z1 := hide hz1); (have O1 := hide ho1); (have s1 : w.heap.size < z1.heap.size := lt_block (HXX.out _ hz1)); (obtain ⟨⟨p0, p1, p2, p3, p4, p5⟩, -⟩ := cells6 (HXX.out _ hz1)); (try (have L1 := hide (recs_lit cEnc_len ⟨ck, ⟨dk, dn, s⟩⟩ (blk_own hb1 (blk_alloc w2 _))))); clear ho1 hb1 hz1)
            | (refine step_appR (enc := cEnc) (k := 4) (by decide) cEnc_len cEnc_one rfl (.tmp 32) (.tmp 35) 23 27 rfl 40 (by decide) Tryd.underlying23 _ infoC rfl w2.heap.size u1 (f.take i) (by rfl) (by first | exact O1.out | exact OwnR.alloc O1.out _) (by simp; omega) (.slice (some ⟨_, 0, none⟩) 1 1) [⟨ck, ⟨dk, dn, s⟩⟩] (by rfl) (by first | exact L1.out | exact recs_lit cEnc_len ⟨ck, ⟨dk, dn, s⟩⟩ (blk_alloc z1 _)) (by simp) (by first | exact Z1.out.size | (have := Z1.out.size; simp; omega)) ?_; intro u2 z2 ho2 hg2; (have Z2 : Hid (Below w2.heap.size w2 z2) := by first | exact Z1.out.grown hg2 Z1.out.size (OwnR.base O1.out) | exact (Z1.out.alloc Z1.out.size _).grown hg2 (by have := Z1.out.size; simp; omega) (OwnR.base O1.out)); (have O2 := hide ho2); (have s2 : w.heap.size < z2.heap.size := lt_block (HXX.out _ Z2.out)); (obtain ⟨⟨r0, r1, r2, r3, r4, r5⟩, -⟩ := cells6 (HXX.out _ Z2.out)); clear ho2 hg2)
            | (refine step_appR (enc := cEnc) (k := 4) (by decide) cEnc_len cEnc_one rfl (.tmp 36) (.tmp 40) 23 27 rfl 40 (by decide) Tryd.underlying23 _ infoC rfl w2.heap.size u2 (f.take i ++ [⟨ck, ⟨dk, dn, s⟩⟩]) (by rfl) O2.out (by simp; omega) _ (f.drop i) (by rfl) (HD0.out _ Z2.out) (by simp; omega) Z2.out.size ?_; intro u3 z3 ho3 hg3; (have Z3 : Hid (Below w2.heap.size w2 z3) := Z2.out.grown hg3 Z2.out.size (OwnR.base O2.out)); (have O3 := hide ho3); clear ho3 hg3)
            | fail)
          all_goals
            have H4 : Hid (Below w.heap.size w z3) := H2.out.trans (Z3.out.mono H2.out.size)
            have O4 : Hid (OwnC w.heap.size z3 u3 (f.take i ++ [⟨ck, ⟨dk, dn, s⟩⟩] ++ f.drop i)) := OwnR.mono O3.out (by omega)
            clear O3 Z3 HCP HXX HDD HD0
            go_wp2_with fail
            all_goals go_tidy
            exact ⟨rfl, .tuple #[u3, .bool true], by simp [results, Tryd.results60, go_sem], H4.out, by rw [HR.out]; exact ⟨_, rfl, O4.out⟩⟩
        · go_upto_region 2 with fail
          go_region_law (first
            | (go_simp; go_at_call 89; (with_reducible refine (HCP.out _ (by first | exact (Below.refl _ _).drew | exact ((Below.refl _ _).alloc (Nat.le_refl _) _).drew)).mono ?_); rintro e z1 ⟨u1, rfl, ho1, hb1, hz1⟩; (have Z1 := hide hz1); (have O1 := hide ho1); (have s1 : w.heap.size < z1.heap.size := lt_block (HXX.out _ hz1)); (obtain ⟨⟨p0, p1, p2, p3, p4, p5⟩, -⟩ := cells6 (HXX.out _ hz1)); (try (have L1 := hide (recs_lit cEnc_len ⟨ck, ⟨dk, dn, s⟩⟩ (blk_own hb1 (blk_alloc w2 _))))); clear ho1 hb1 hz1)
            | (refine step_appR (enc := cEnc) (k := 4) (by decide) cEnc_len cEnc_one rfl (.tmp 32) (.tmp 35) 23 27 rfl 40 (by decide) Tryd.underlying23 _ infoC rfl w2.heap.size u1 (f.take i) (by rfl) (by first | exact O1.out | exact OwnR.alloc O1.out _) (by simp; omega) (.slice (some ⟨_, 0, none⟩) 1 1) [⟨ck, ⟨dk, dn, s⟩⟩] (by rfl) (by first | exact L1.out | exact recs_lit cEnc_len ⟨ck, ⟨dk, dn, s⟩⟩ (blk_alloc z1 _)) (by simp) (by first | exact Z1.out.size | (have := Z1.out.size; simp; omega)) ?_; intro u2 z2 ho2 hg2; (have Z2 : Hid (Below w2.heap.size w2 z2) := by first | exact Z1.out.grown hg2 Z1.out.size (OwnR.base O1.out) | exact (Z1.out.alloc Z1.out.size _).grown hg2 (by have := Z1.out.size; simp; omega) (OwnR.base O1.out)); (have O2 := hide ho2); (have s2 : w.heap.size < z2.heap.size := lt_block (HXX.out _ Z2.out)); (obtain ⟨⟨r0, r1, r2, r3, r4, r5⟩, -⟩ := cells6 (HXX.out _ Z2.out)); clear ho2 hg2)
            | (refine step_appR (enc := cEnc) (k := 4) (by decide) cEnc_len cEnc_one rfl (.tmp 36) (.tmp 40) 23 27 rfl 40 (by decide) Tryd.underlying23 _ infoC rfl w2.heap.size u2 (f.take i ++ [⟨ck, ⟨dk, dn, s⟩⟩]) (by rfl) O2.out (by simp; omega) _ (f.drop i) (by rfl) (HDD.out _ Z2.out) (by simp; omega) Z2.out.size ?_; intro u3 z3 ho3 hg3; (have Z3 : Hid (Below w2.heap.size w2 z3) := Z2.out.grown hg3 Z2.out.size (OwnR.base O2.out)); (have O3 := hide ho3); clear ho3 hg3)
            | fail)
          all_goals
            have H4 : Hid (Below w.heap.size w z3) := H2.out.trans (Z3.out.mono H2.out.size)
            have O4 : Hid (OwnC w.heap.size z3 u3 (f.take i ++ [⟨ck, ⟨dk, dn, s⟩⟩] ++ f.drop i)) := OwnR.mono O3.out (by omega)
            clear O3 Z3 HCP HXX HDD HD0
            go_wp2_with fail
            all_goals go_tidy
            exact ⟨rfl, .tuple #[u3, .bool true], by simp [results, Tryd.results60, go_sem], H4.out, by rw [HR.out]; exact ⟨_, rfl, O4.out⟩⟩
      · have HR : Hid (R = none) := by unfold Hid; rw [hR]; simp [posB, l5]
        clear hR hc
        go_enter Tryd.func60, Tryd.ntmps60
        go_wp2_with fail
        with_reducible refine (HI.out _).mono ?_
        rintro e _ ⟨rfl, rfl⟩
        go_wp2_with fail
        with_reducible refine (HV.out _).mono ?_
        rintro e w2 ⟨rfl, hb2⟩
        have H2 := hide (HB.out.trans (hb2.mono HB.out.size))
        obtain ⟨⟨c0, c1, c2, c3, c4, c5⟩, -⟩ := cells6 (blk_own hb2 HX.out)
        clear hb2
        go_wp2_with fail
        all_goals go_tidy
        exact ⟨rfl, .tuple #[.slice none 0 0, .bool false], by simp [results, Tryd.results60, go_sem], H2.out, by rw [HR.out]⟩
  · have HI := hide (fun w => inRange_no at' 0 (f.length : Int) w q)
    have HR : Hid (R = none) := by unfold Hid; rw [hR]; simp [posB]; intro h1 h2; exact absurd ⟨h1, h2⟩ q
    clear hR q
    go_enter Tryd.func60, Tryd.ntmps60
    go_wp2_with fail
    with_reducible refine (HI.out _).mono ?_
    rintro e _ ⟨rfl, rfl⟩
    go_wp2_with fail
    all_goals go_tidy
    exact ⟨rfl, .tuple #[.slice none 0 0, .bool false], by simp [results, Tryd.results60, go_sem], HB.out, by rw [HR.out]⟩
end Go.Proofs.YtdijcdadcbhipaaDoor
