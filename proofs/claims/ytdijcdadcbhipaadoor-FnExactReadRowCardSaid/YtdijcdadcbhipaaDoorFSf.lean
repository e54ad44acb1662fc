/-
  ChangeFormat of the specification.
-/
import Derived.Test.YtdijcdadcbhipaaDoorFSc
import Derived.Test.YtdijcdadcbhipaaDoorFSd
import Derived.Test.YtdijcdadcbhipaaDoorFSe
set_option linter.all false
namespace Go.Proofs.YtdijcdadcbhipaaDoor
open Go.RowKit
set_option maxHeartbeats 8000000 in
set_option maxRecDepth 100000 in
theorem schange_other (k at' ck dk dn : Int) (s : ByteArray) (v : Value) (f : List RCol) (w : World) (h : Recs cEnc 4 w v f) (k1 : k ≠ 1) (k2 : k ≠ 2) (k3 : k ≠ 3) :
    Calls Tryd.prog 60 #[v, .agg #[.int .i64 k, .int .i64 at', .int .i64 ck, .int .i64 dk, .int .i64 dn, .string s]] w (CRet w none) := by
  have HB := hide (below_box w (.cells #[.int .i64 k, .int .i64 at', .int .i64 ck, .int .i64 dk, .int .i64 dn, .string s] 29))
  obtain ⟨a, cap, rfl, hl, hcap⟩ := h.shape
  obtain ⟨x1, y1⟩ := i64_neq k1
  obtain ⟨x2, y2⟩ := i64_neq k2
  obtain ⟨x3, y3⟩ := i64_neq k3
  clear h k1 k2 k3
  go_enter Tryd.func60, Tryd.ntmps60
  go_wp2_with fail
  all_goals go_tidy
  exact ⟨rfl, .tuple #[.slice none 0 0, .bool false], by simp [results, Tryd.results60, go_sem], HB.out, rfl⟩
theorem schange_any (c : RChg) (v : Value) (f : List RCol) (w : World) (h : Recs cEnc 4 w v f) (hc : okC c.c) (hg : ∀ x ∈ f, goodC x) (hf1 : 1 ≤ f.length) (hf5 : f.length ≤ 1000) :
    Calls Tryd.prog 60 #[v, (.agg #[.int .i64 c.k, .int .i64 c.a, .int .i64 c.c.k, .int .i64 c.c.d.k, .int .i64 c.c.d.n, .string c.c.d.s])] w (CRet w (if posB f c then some (newC f c) else none)) := by
  obtain ⟨k, at', ⟨ck, ⟨dk, dn, s⟩⟩⟩ := c
  by_cases k1 : k = 1
  · subst k1; exact schange_add at' ck dk dn s hc v f w h hf1 hf5
  by_cases k2 : k = 2
  · subst k2; exact schange_drop at' ck dk dn s v f w h hf1 hf5
  by_cases k3 : k = 3
  · subst k3; exact schange_widen at' ck dk dn s v f w h hf1 hf5 hg
  · have hp : posB f ⟨k, at', ⟨ck, ⟨dk, dn, s⟩⟩⟩ = false := by simp [posB, k1, k2, k3]
    rw [hp]
    exact schange_other k at' ck dk dn s v f w h k1 k2 k3
theorem CRet.trans {w w1 w' : World} {o : Option (List RCol)} {e : Ending} (hb : Below w.heap.size w w1) (h : CRet w1 o e w') : CRet w o e w' := by
  obtain ⟨h1, h2⟩ := h
  refine ⟨hb.trans (h1.mono hb.size), ?_⟩
  cases o with
  | none => exact h2
  | some g =>
    obtain ⟨v', h3, h4⟩ := h2
    exact ⟨v', h3, OwnR.mono h4 hb.size⟩
theorem fmt_len2 {f : List RCol} (h : fmtB f = true) : 1 ≤ f.length ∧ f.length ≤ 5 ∧ ∀ x ∈ f, colB x = true := by
  unfold fmtB at h; simp at h; exact ⟨h.1.1, h.1.2, h.2⟩
theorem fmt_good {f : List RCol} (h : fmtB f = true) (ho : ∀ x ∈ f, okC x) : ∀ x ∈ f, goodC x := by
  intro x hx
  have h1 := (fmt_len2 h).2.2 x hx
  unfold colB at h1
  simp at h1
  exact ⟨ho x hx, num_val h1.1.2⟩
set_option maxHeartbeats 4000000 in
theorem sChange_any (c : RChg) (v : Value) (f : List RCol) (w : World) (h : Recs cEnc 4 w v f) (ho : ∀ x ∈ f, okC x) (hc : okC c.c) :
    Calls Tryd.prog 17 #[v, (.agg #[.int .i64 c.k, .int .i64 c.a, .int .i64 c.c.k, .int .i64 c.c.d.k, .int .i64 c.c.d.n, .string c.c.d.s])] w (CRet w (chC f c)) := by
  have HB := hide (below_box w (.cells #[.int .i64 c.k, .int .i64 c.a, .int .i64 c.c.k, .int .i64 c.c.d.k, .int .i64 c.c.d.n, .string c.c.d.s] 29))
  have HX := hide (blk_alloc w (.cells #[.int .i64 c.k, .int .i64 c.a, .int .i64 c.c.k, .int .i64 c.c.d.k, .int .i64 c.c.d.n, .string c.c.d.s] 29))
  have HF0 := hide (h.keep HB.out)
  have HV := hide (svalidFormat_any v f _ HF0.out ho)
  have HC := hide (fun w h h1 => schange_any c v f w h hc (fmt_good h1 ho) (fmt_len2 h1).1 (by have := (fmt_len2 h1).2.1; omega))
  obtain ⟨R, hR⟩ : ∃ R, R = chC f c := ⟨_, rfl⟩
  rw [← hR]
  obtain ⟨a, cap, rfl, hl, hcap⟩ := h.shape
  cases hv : fmtB f with
  | false =>
    have HR : Hid (R = none) := by unfold Hid; rw [hR]; simp [chC, hv]
    rw [hv] at HV
    clear hR hv h HC
    go_enter Tryd.func17, Tryd.ntmps17
    go_wp2_with fail
    with_reducible refine HV.out.mono ?_
    rintro e w1 ⟨rfl, hb1⟩
    have H1 := hide (HB.out.trans (hb1.mono HB.out.size))
    clear hb1
    go_wp2_with fail
    all_goals go_tidy
    exact ⟨rfl, .tuple #[.slice none 0 0, .bool false], by simp [results, Tryd.results17, go_sem], H1.out, by rw [HR.out]⟩
  | true =>
    have HR : Hid (R = if posB f c then some (newC f c) else none) := by unfold Hid; rw [hR]; simp [chC, hv]
    rw [hv] at HV
    have HC := hide (fun w h => HC.out w h hv)
    rw [← HR.out] at HC
    clear hR HR hv h
    go_enter Tryd.func17, Tryd.ntmps17
    go_wp2_with fail
    with_reducible refine HV.out.mono ?_
    rintro e w1 ⟨rfl, hb1⟩
    have H1 := hide (HB.out.trans (hb1.mono HB.out.size))
    have HF1 := hide (HF0.out.keep hb1)
    obtain ⟨⟨c0, c1, c2, c3, c4, c5⟩, -⟩ := cells6 (blk_own hb1 HX.out)
    clear hb1 HV
    go_wp2_with fail
    with_reducible refine (HC.out _ HF1.out).mono ?_
    rintro e w2 ⟨hb2, hq⟩
    have H2 := hide (H1.out.trans (hb2.mono H1.out.size))
    have HS := hide H1.out.size
    clear hb2 c0 c1 c2 c3 c4 c5
    cases R with
    | none =>
      obtain rfl := hq
      go_wp2_with fail
      all_goals go_tidy
      exact ⟨rfl, .tuple #[.slice none 0 0, .bool false], by simp [results, Tryd.results17, go_sem], H2.out, rfl⟩
    | some g =>
      obtain ⟨v', rfl, ho'⟩ := hq
      have HO := hide ho'
      clear ho'
      go_wp2_with fail
      all_goals go_tidy
      exact ⟨rfl, .tuple #[v', .bool true], by simp [results, Tryd.results17, go_sem], H2.out, ⟨_, rfl, OwnR.mono HO.out HS.out⟩⟩
end Go.Proofs.YtdijcdadcbhipaaDoor
