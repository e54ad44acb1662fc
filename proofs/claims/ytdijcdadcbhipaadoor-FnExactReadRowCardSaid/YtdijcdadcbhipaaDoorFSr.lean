/-
  ChangeRow of the specification.
-/
import Derived.Test.YtdijcdadcbhipaaDoorFMv1
import Derived.Test.YtdijcdadcbhipaaDoorFMv3
import Derived.Test.YtdijcdadcbhipaaDoorFPl
set_option linter.all false
namespace Go.Proofs.YtdijcdadcbhipaaDoor
open Go.RowKit
theorem smove_any (c : RChg) (v : Value) (f : List RCol) (r : List RVal) (w : World) (h : Recs vEnc 3 w v r) (hp : posB f c = true) (hf : fitB f r = true) :
    Calls Tryd.prog 73 #[v, (.agg #[.int .i64 c.k, .int .i64 c.a, .int .i64 c.c.k, .int .i64 c.c.d.k, .int .i64 c.c.d.n, .string c.c.d.s])] w fun e w' => ∃ u, e = .returned u ∧ OwnV w.heap.size w' u (newR r c) ∧ Below w.heap.size w w' := by
  obtain ⟨h1, h5, hl, -, hv⟩ := fit_of hf
  obtain ⟨i, hi, hil, hc⟩ := pos_at hp
  obtain ⟨k, at', ⟨ck, ⟨dk, dn, s⟩⟩⟩ := c
  simp only at hi hc
  subst hi
  rcases hc with ⟨hk, -, -, -⟩ | ⟨hk, hlt, -, -⟩ | ⟨hk, hlt, -, -⟩
  · subst hk
    have := smove_add i ck dk dn s v r w h h1 (by omega) (by omega)
    simpa [newR] using this
  · subst hk
    have := smove_drop i ck dk dn s v r w h h1 (by omega) (by omega)
    simpa [newR] using this
  · subst hk
    have hlr : i < r.length := by omega
    have := smove_widen i ck dk dn s v r w h h1 (by omega) hlr (num_val (hv _ (List.getElem_mem hlr)))
    have e : newR r ⟨3, (i : Int), ⟨ck, ⟨dk, dn, s⟩⟩⟩ = r.take i ++ [widV r[i]] ++ r.drop (i + 1) := by
      unfold newR
      rw [if_neg (by simp), if_neg (by simp), Int.toNat_natCast, drop_one hlr]; rfl
    rw [e]
    exact this
set_option maxHeartbeats 8000000 in
set_option maxRecDepth 100000 in
theorem sRow_any (c : RChg) (v u : Value) (f : List RCol) (r : List RVal) (w : World) (h : Recs cEnc 4 w v f) (h' : Recs vEnc 3 w u r) (ho : ∀ x ∈ f, okC x) (hor : ∀ x ∈ r, okV x) (hc : okC c.c) :
    Calls Tryd.prog 33 #[v, u, (.agg #[.int .i64 c.k, .int .i64 c.a, .int .i64 c.c.k, .int .i64 c.c.d.k, .int .i64 c.c.d.n, .string c.c.d.s])] w (RRet w (chR f r c)) := by
  have HB := hide (below_box w (.cells #[.int .i64 c.k, .int .i64 c.a, .int .i64 c.c.k, .int .i64 c.c.d.k, .int .i64 c.c.d.n, .string c.c.d.s] 29))
  have HX := hide (blk_alloc w (.cells #[.int .i64 c.k, .int .i64 c.a, .int .i64 c.c.k, .int .i64 c.c.d.k, .int .i64 c.c.d.n, .string c.c.d.s] 29))
  have HF0 := hide (h.keep HB.out)
  have HR0 := hide (h'.keep HB.out)
  have HV := hide (svalidFormat_any v f _ HF0.out ho)
  have HW := hide (fun w h h' => sfits_any v u f r w h h' hor)
  have HC := hide (fun w h h1 => schange_any c v f w h hc (fmt_good h1 ho) (fmt_len2 h1).1 (by have := (fmt_len2 h1).2.1; omega))
  have HM := hide (fun w h hp hf => smove_any c u f r w h hp hf)
  have HFE := hide (fitB_eq f r)
  obtain ⟨R, hR⟩ : ∃ R, R = chR f r c := ⟨_, rfl⟩
  rw [← hR]
  obtain ⟨a, cap, rfl, hl, hcap⟩ := h.shape
  obtain ⟨a2, cap2, rfl, hl2, hcap2⟩ := h'.shape
  cases hv : fmtB f with
  | false =>
    have HR : Hid (R = none) := by unfold Hid; rw [hR]; simp [chR, HFE.out, hv]
    rw [hv] at HV
    clear hR hv h h' HC HM
    go_enter Tryd.func33, Tryd.ntmps33
    go_wp2_with fail
    with_reducible refine HV.out.mono ?_
    rintro e w1 ⟨rfl, hb1⟩
    have H1 := hide (HB.out.trans (hb1.mono HB.out.size))
    clear hb1
    go_wp2_with fail
    all_goals go_tidy
    exact ⟨rfl, .tuple #[.slice none 0 0, .bool false], by simp [results, Tryd.results33, go_sem], H1.out, by rw [HR.out]⟩
  | true =>
    rw [hv] at HV
    cases hs : sfitB f r with
    | false =>
      have HR : Hid (R = none) := by unfold Hid; rw [hR]; simp [chR, HFE.out, hs]
      rw [hs] at HW
      clear hR hv hs h h' HC HM
      go_enter Tryd.func33, Tryd.ntmps33
      go_wp2_with fail
      with_reducible refine HV.out.mono ?_
      rintro e w1 ⟨rfl, hb1⟩
      have H1 := hide (HB.out.trans (hb1.mono HB.out.size))
      have HF1 := hide (HF0.out.keep hb1)
      have HR1 := hide (HR0.out.keep hb1)
      clear hb1
      go_wp2_with fail
      with_reducible refine (HW.out _ HF1.out HR1.out).mono ?_
      rintro e w2 ⟨rfl, hb2⟩
      have H2 := hide (H1.out.trans (hb2.mono H1.out.size))
      clear hb2
      go_wp2_with fail
      all_goals go_tidy
      exact ⟨rfl, .tuple #[.slice none 0 0, .bool false], by simp [results, Tryd.results33, go_sem], H2.out, by rw [HR.out]⟩
    | true =>
      have hfit : fitB f r = true := by rw [HFE.out, hv, hs]; rfl
      have HC := hide (fun w h => HC.out w h hv)
      have HM := hide (fun w h hp => HM.out w h hp hfit)
      have HRR : Hid (R = if posB f c then some (newR r c) else none) := by unfold Hid; rw [hR]; simp [chR, hfit]
      rw [hs] at HW
      clear hR hv hs h h' hfit HFE
      cases hp : posB f c with
      | false =>
        have HC := hide (fun w h => by have := HC.out w h; rw [hp] at this; exact this)
        have HR : Hid (R = none) := by unfold Hid; rw [HRR.out, hp]; rfl
        clear HRR hp HM
        go_enter Tryd.func33, Tryd.ntmps33
        go_wp2_with fail
        with_reducible refine HV.out.mono ?_
        rintro e w1 ⟨rfl, hb1⟩
        have H1 := hide (HB.out.trans (hb1.mono HB.out.size))
        have HF1 := hide (HF0.out.keep hb1)
        have HR1 := hide (HR0.out.keep hb1)
        have X1 := hide (blk_own hb1 HX.out)
        clear hb1
        go_wp2_with fail
        with_reducible refine (HW.out _ HF1.out HR1.out).mono ?_
        rintro e w2 ⟨rfl, hb2⟩
        have H2 := hide (H1.out.trans (hb2.mono H1.out.size))
        have HF2 := hide (HF1.out.keep hb2)
        obtain ⟨⟨c0, c1, c2, c3, c4, c5⟩, -⟩ := cells6 (blk_own hb2 X1.out)
        clear hb2
        go_wp2_with fail
        with_reducible refine (HC.out _ HF2.out).mono ?_
        rintro e w3 ⟨hb3, hq⟩
        have H3 := hide (H2.out.trans (hb3.mono H2.out.size))
        obtain rfl := hq
        clear hb3 c0 c1 c2 c3 c4 c5
        go_wp2_with fail
        all_goals go_tidy
        exact ⟨rfl, .tuple #[.slice none 0 0, .bool false], by simp [results, Tryd.results33, go_sem], H3.out, by rw [HR.out]⟩
      | true =>
        have HC := hide (fun w h => by have := HC.out w h; rw [hp] at this; exact this)
        have HM := hide (fun w h => HM.out w h hp)
        have HR : Hid (R = some (newR r c)) := by unfold Hid; rw [HRR.out, hp]; rfl
        clear HRR hp
        go_enter Tryd.func33, Tryd.ntmps33
        go_wp2_with fail
        with_reducible refine HV.out.mono ?_
        rintro e w1 ⟨rfl, hb1⟩
        have H1 := hide (HB.out.trans (hb1.mono HB.out.size))
        have HF1 := hide (HF0.out.keep hb1)
        have HR1 := hide (HR0.out.keep hb1)
        have X1 := hide (blk_own hb1 HX.out)
        clear hb1
        go_wp2_with fail
        with_reducible refine (HW.out _ HF1.out HR1.out).mono ?_
        rintro e w2 ⟨rfl, hb2⟩
        have H2 := hide (H1.out.trans (hb2.mono H1.out.size))
        have HF2 := hide (HF1.out.keep hb2)
        have HR2 := hide (HR1.out.keep hb2)
        have X2 := hide (blk_own hb2 X1.out)
        obtain ⟨⟨c0, c1, c2, c3, c4, c5⟩, -⟩ := cells6 X2.out
        clear hb2
        go_wp2_with fail
        with_reducible refine (HC.out _ HF2.out).mono ?_
        rintro e w3 ⟨hb3, hq⟩
        have H3 := hide (H2.out.trans (hb3.mono H2.out.size))
        have HR3 := hide (HR2.out.keep hb3)
        obtain ⟨v3, rfl, -⟩ := hq
        have X3 := hide (blk_own hb3 X2.out)
        clear hb3 c0 c1 c2 c3 c4 c5
        obtain ⟨⟨c0, c1, c2, c3, c4, c5⟩, -⟩ := cells6 X3.out
        go_wp2_with fail
        with_reducible refine (HM.out _ HR3.out).mono ?_
        rintro e w4 ⟨u4, rfl, ho4, hb4⟩
        have H4 := hide (H3.out.trans (hb4.mono H3.out.size))
        have O4 : Hid (OwnV w.heap.size w4 u4 (newR r c)) := OwnR.mono ho4 H3.out.size
        clear hb4 ho4 c0 c1 c2 c3 c4 c5
        go_wp2_with fail
        all_goals go_tidy
        exact ⟨rfl, .tuple #[u4, .bool true], by simp [results, Tryd.results33, go_sem], H4.out, by rw [HR.out]; exact ⟨_, rfl, O4.out⟩⟩
end Go.Proofs.YtdijcdadcbhipaaDoor
