/-
  change of the specification: ChangeDrop.
-/
import Derived.Test.YtdijcdadcbhipaaDoorFSw
import Derived.Test.YtdijcdadcbhipaaDoorFSc0
import Derived.RegionCalls
import Derived.Deep.RegionLaw
set_option linter.all false
namespace Go.Proofs.YtdijcdadcbhipaaDoor
open Go.RowKit
set_option maxHeartbeats 8000000 in
set_option maxRecDepth 100000 in
theorem schange_drop (at' ck dk dn : Int) (s : ByteArray) (v : Value) (f : List RCol) (w : World) (h : Recs cEnc 4 w v f) (hf1 : 1 ≤ f.length) (hf5 : f.length ≤ 1000) :
    Calls Tryd.prog 60 #[v, .agg #[.int .i64 2, .int .i64 at', .int .i64 ck, .int .i64 dk, .int .i64 dn, .string s]] w (CRet w (if posB f ⟨2, at', ⟨ck, ⟨dk, dn, s⟩⟩⟩ then some (newC f ⟨2, at', ⟨ck, ⟨dk, dn, s⟩⟩⟩) else none)) := by
  obtain ⟨R, hR⟩ : ∃ R, R = (if posB f ⟨2, at', ⟨ck, ⟨dk, dn, s⟩⟩⟩ then some (newC f ⟨2, at', ⟨ck, ⟨dk, dn, s⟩⟩⟩) else none) := ⟨_, rfl⟩
  rw [← hR]
  have HB := hide (below_box w (.cells #[.int .i64 2, .int .i64 at', .int .i64 ck, .int .i64 dk, .int .i64 dn, .string s] 29))
  have HX := hide (blk_alloc w (.cells #[.int .i64 2, .int .i64 at', .int .i64 ck, .int .i64 dk, .int .i64 dn, .string s] 29))
  have HF0 := hide (h.keep HB.out)
  obtain ⟨b, off, cap, rfl, hl, hcap⟩ := h.at hf1
  clear h
  by_cases q : 0 ≤ at' ∧ at' ≤ (f.length : Int) - 1
  · have HI := hide (fun w => inRange_yes at' 0 ((f.length : Int) - 1) w q.1 q.2)
    obtain ⟨i, rfl⟩ : ∃ i : Nat, at' = (i : Int) := ⟨at'.toNat, by omega⟩
    have hil : i < f.length := by omega
    clear q
    by_cases l1 : 1 < f.length
    · have HR : Hid (R = some (f.take i ++ f.drop (i + 1))) := by unfold Hid; rw [hR, if_pos (by simp [posB, l1]; omega)]; simp [newC]
      have d1 : decide (1 < (f.length : Int)) = true := by simp; omega
      obtain ⟨w2, hw2⟩ : ∃ w2, w2 = w.alloc (.cells #[.int .i64 2, .int .i64 (i : Int), .int .i64 ck, .int .i64 dk, .int .i64 dn, .string s] 29) := ⟨_, rfl⟩
      have H2 : Hid (Below w.heap.size w w2) := by rw [hw2]; exact HB.out
      have HX2 : Hid (w2.heap[w.heap.size]? = some (.cells #[.int .i64 2, .int .i64 (i : Int), .int .i64 ck, .int .i64 dk, .int .i64 dn, .string s] 29 (0, 0))) := by rw [hw2]; exact HX.out
      have HF2 : Hid (Recs cEnc 4 w2 (.slice (some ⟨b, off, none⟩) f.length cap) f) := by rw [hw2]; exact HF0.out
      have hws : w.heap.size < w2.heap.size := lt_block HX2.out
      obtain ⟨⟨c0, c1, c2, c3, c4, c5⟩, -⟩ := cells6 HX2.out
      have hic : i + 1 ≤ cap := by omega
      have hic0 : i ≤ cap := by omega
      have hi0 : (0 : Int) ≤ (i : Int) + 1 := by omega
      have hi1 : (i : Int) + 1 ≤ (f.length : Int) := by omega
      have hii : (i : Int) ≤ (i : Int) + 1 := by omega
      have hw1 : IntKind.i64.wrap ((i : Int) + 1) = (i : Int) + 1 := by rw [IntKind.wrap_i64]; omega
      have htn : ((i : Int) + 1).toNat = i + 1 := by omega
      have HCP : Hid (∀ W, Below w2.heap.size w2 W → Calls Tryd.prog 89 #[.slice (some ⟨b, off, none⟩) i cap] W fun e w' => ∃ v', e = .returned v' ∧ OwnC w2.heap.size w' v' (f.take i) ∧ Below w2.heap.size w2 w') := fun W hW =>
        (scopyC_any _ (f.take i) W ((HF2.out.keep hW).take i (by omega)) (by simp; omega)).mono fun e w' ⟨v', h1, h2, h3⟩ => ⟨v', h1, OwnR.mono h2 hW.size, hW.trans (h3.mono hW.size)⟩
      have HXX : Hid (∀ W, Below w2.heap.size w2 W → W.heap[w.heap.size]? = some (.cells #[.int .i64 2, .int .i64 (i : Int), .int .i64 ck, .int .i64 dk, .int .i64 dn, .string s] 29 (0, 0))) := fun W hW => blk_own hW HX2.out
      have HDD : Hid (∀ W, Below w2.heap.size w2 W → Recs cEnc 4 W (.slice (some ⟨b, off + (i + 1) * 4, none⟩) (f.length - (i + 1)) (cap - (i + 1))) (f.drop (i + 1))) := fun W hW => (HF2.out.keep hW).drop (i + 1) (by omega)
      have HD0 : Hid (cap = i + 1 → ∀ W, Below w2.heap.size w2 W → Recs cEnc 4 W (.slice (some ⟨b, off, none⟩) 0 0) (f.drop (i + 1))) := fun hc W hW => by
        have := (HF2.out.keep hW).drop0 (i + 1) (by omega) hc
        rw [show f.length - (i + 1) = 0 by omega, show cap - (i + 1) = 0 by omega] at this
        exact this
      clear hR HB HX HF0
      by_cases hci : cap = i + 1
      · subst hci
        replace HD0 := hide (HD0.out rfl)
        go_enter Tryd.func60, Tryd.ntmps60
        go_wp2_with fail
        with_reducible refine (HI.out _).mono ?_
        rintro e _ ⟨rfl, rfl⟩
        go_upto_region 4 with fail
        rw [← hw2]
        clear hw2 HI
        go_region_law (first
          | (go_simp; go_at_call 89; (with_reducible refine (HCP.out _ (by first | exact (Below.refl _ _).drew | exact Below.refl _ _)).mono ?_); rintro e z1 ⟨u1, rfl, ho1, hz1⟩; (have Z1 := hide hz1); (have O1 := hide ho1); (obtain ⟨⟨p0, p1, p2, p3, p4, p5⟩, -⟩ := cells6 (HXX.out _ hz1)); clear ho1 hz1)
          | (refine step_appR (enc := cEnc) (k := 4) (by decide) cEnc_len cEnc_one rfl (.tmp 63) (.tmp 68) 23 27 rfl 40 (by decide) Tryd.underlying23 _ infoC rfl w2.heap.size u1 (f.take i) (by rfl) O1.out (by simp; omega) _ (f.drop (i + 1)) (by rfl) (HD0.out _ Z1.out) (by simp; omega) Z1.out.size ?_; intro u3 z3 ho3 hg3; (have Z3 : Hid (Below w2.heap.size w2 z3) := Z1.out.grown hg3 Z1.out.size (OwnR.base O1.out)); (have O3 := hide ho3); clear ho3 hg3)
          | fail)
        all_goals
          have H4 : Hid (Below w.heap.size w z3) := H2.out.trans (Z3.out.mono H2.out.size)
          have O4 : Hid (OwnC w.heap.size z3 u3 (f.take i ++ f.drop (i + 1))) := OwnR.mono O3.out (by omega)
          clear O3 Z3 HCP HXX HDD HD0
          go_wp2_with fail
          all_goals go_tidy
          exact ⟨rfl, .tuple #[u3, .bool true], by simp [results, Tryd.results60, go_sem], H4.out, by rw [HR.out]; exact ⟨_, rfl, O4.out⟩⟩
      · go_enter Tryd.func60, Tryd.ntmps60
        go_wp2_with fail
        with_reducible refine (HI.out _).mono ?_
        rintro e _ ⟨rfl, rfl⟩
        go_upto_region 4 with fail
        rw [← hw2]
        clear hw2 HI
        go_region_law (first
          | (go_simp; go_at_call 89; (with_reducible refine (HCP.out _ (by first | exact (Below.refl _ _).drew | exact Below.refl _ _)).mono ?_); rintro e z1 ⟨u1, rfl, ho1, hz1⟩; (have Z1 := hide hz1); (have O1 := hide ho1); (obtain ⟨⟨p0, p1, p2, p3, p4, p5⟩, -⟩ := cells6 (HXX.out _ hz1)); clear ho1 hz1)
          | (refine step_appR (enc := cEnc) (k := 4) (by decide) cEnc_len cEnc_one rfl (.tmp 63) (.tmp 68) 23 27 rfl 40 (by decide) Tryd.underlying23 _ infoC rfl w2.heap.size u1 (f.take i) (by rfl) O1.out (by simp; omega) _ (f.drop (i + 1)) (by rfl) (HDD.out _ Z1.out) (by simp; omega) Z1.out.size ?_; intro u3 z3 ho3 hg3; (have Z3 : Hid (Below w2.heap.size w2 z3) := Z1.out.grown hg3 Z1.out.size (OwnR.base O1.out)); (have O3 := hide ho3); clear ho3 hg3)
          | fail)
        all_goals
          have H4 : Hid (Below w.heap.size w z3) := H2.out.trans (Z3.out.mono H2.out.size)
          have O4 : Hid (OwnC w.heap.size z3 u3 (f.take i ++ f.drop (i + 1))) := OwnR.mono O3.out (by omega)
          clear O3 Z3 HCP HXX HDD HD0
          go_wp2_with fail
          all_goals go_tidy
          exact ⟨rfl, .tuple #[u3, .bool true], by simp [results, Tryd.results60, go_sem], H4.out, by rw [HR.out]; exact ⟨_, rfl, O4.out⟩⟩
    · have HR : Hid (R = none) := by unfold Hid; rw [hR]; simp [posB, l1]
      clear hR
      go_enter Tryd.func60, Tryd.ntmps60
      go_wp2_with fail
      with_reducible refine (HI.out _).mono ?_
      rintro e _ ⟨rfl, rfl⟩
      go_wp2_with fail
      all_goals go_tidy
      exact ⟨rfl, .tuple #[.slice none 0 0, .bool false], by simp [results, Tryd.results60, go_sem], HB.out, by rw [HR.out]⟩
  · have HI := hide (fun w => inRange_no at' 0 ((f.length : Int) - 1) w q)
    have HR : Hid (R = none) := by unfold Hid; rw [hR]; rw [if_neg (by simp [posB]; omega)]
    clear hR q
    go_enter Tryd.func60, Tryd.ntmps60
    go_wp2_with fail
    with_reducible refine (HI.out _).mono ?_
    rintro e _ ⟨rfl, rfl⟩
    go_wp2_with fail
    all_goals go_tidy
    exact ⟨rfl, .tuple #[.slice none 0 0, .bool false], by simp [results, Tryd.results60, go_sem], HB.out, by rw [HR.out]⟩
end Go.Proofs.YtdijcdadcbhipaaDoor
