/-
  Trees as lists of leaves: what TreeInsert, TreeDelete and TreeLoad come to is valid. No program stands here.
-/
import Derived.Test.YtmlphdniiiijpaaTreeL
set_option linter.all false
namespace Go.Proofs.Ytmlphdniiiijpaa
theorem putL_len1 {l : List Itm} (h : SrtI l) {x : Itm} (hx : hasI l x = false) : (putL l x).length = l.length + 1 := by
  rw [putL_parts h x hx]
  have := posI_le l x
  rw [List.length_append, List.length_append, List.length_take, List.length_drop]; simp; omega
theorem delL_len1 {l : List Itm} (h : SrtI l) {x : Itm} (hx : hasI l x = true) : (delL l x).length + 1 = l.length := by
  obtain ⟨hk, -⟩ := (hasI_of h x).1 hx
  rw [delL_parts h x hx, List.length_append, List.length_take, List.length_drop]; omega
theorem divL_len {f : List Itm} (h5 : f.length ≤ 5) : ∀ g ∈ divL f, (f.length ≤ 4 ∧ g = f ∧ 0 < f.length) ∨ (f.length = 5 ∧ 2 ≤ g.length ∧ g.length ≤ 3) := by
  intro g hg
  unfold divL at hg
  split at hg
  · simp at hg
  · split at hg
    · rename_i h1 h2
      simp at hg
      exact .inl ⟨h2, hg, by omega⟩
    · rename_i h1 h2
      have e5 : f.length = 5 := by omega
      simp at hg
      rcases hg with rfl | rfl
      · exact .inr ⟨e5, by rw [List.length_take]; omega, by rw [List.length_take]; omega⟩
      · exact .inr ⟨e5, by rw [List.length_drop]; omega, by rw [List.length_drop]; omega⟩
theorem divL_count (f : List Itm) : (divL f).length ≤ 2 ∧ (0 < f.length → 1 ≤ (divL f).length) ∧ (4 < f.length → (divL f).length = 2) := by
  unfold divL
  split
  · exact ⟨by simp, fun h => by omega, fun h => by omega⟩
  · split
    · exact ⟨by simp, fun _ => by simp, fun h => by omega⟩
    · exact ⟨by simp, fun _ => by simp, fun _ => by simp⟩
theorem srt_sub {t : List (List Itm)} (h : SrtI (flatT t)) {f : List Itm} (hf : f ∈ t) : SrtI f := by
  obtain ⟨i, hi, rfl⟩ := List.getElem_of_mem hf
  rw [flatT_split hi] at h
  unfold SrtI at h
  rw [List.pairwise_append, List.pairwise_append] at h
  exact h.1.2.1
theorem VT.srt {t : List (List Itm)} (h : VT t) : SrtI (flatT t) := ordI_srtT h.ord
theorem VT.ne {t : List (List Itm)} (h : VT t) : ∀ f ∈ t, 1 ≤ f.length := fun f hf => Nat.le_trans (lowT_pos t) (h.len f hf).1
theorem lowT_two {t : List (List Itm)} (h : 2 ≤ t.length) : lowT t = 2 := by unfold lowT; rw [if_neg (by omega)]
theorem lowT_le (t : List (List Itm)) : lowT t ≤ 2 := by unfold lowT; split <;> omega
/-- leaves that take the place of others are of the right size -/
theorem with_len {t : List (List Itm)} (h : VT t) {p q : Nat} {f : List Itm} (h2 : 2 ≤ t.length) (hf2 : 2 ≤ f.length) (hf5 : f.length ≤ 5) : ∀ g ∈ withT t p q f, lowT (withT t p q f) ≤ g.length ∧ g.length ≤ 4 := by
  intro g hg
  have hl := lowT_le (withT t p q f)
  unfold withT at hg
  rw [List.mem_append, List.mem_append] at hg
  have hold : ∀ g ∈ t, 2 ≤ g.length ∧ g.length ≤ 4 := fun g hg => by have := h.len g hg; rw [lowT_two h2] at this; exact this
  rcases hg with (hg | hg) | hg
  · have := hold g (List.mem_of_mem_take hg); omega
  · rcases divL_len hf5 g hg with ⟨h3, rfl, h4⟩ | ⟨h3, h4, h5⟩ <;> omega
  · have := hold g (List.mem_of_mem_drop hg); omega
theorem with_one {t : List (List Itm)} (h1 : t.length = 1) (f : List Itm) : withT t 0 1 f = divL f := by
  unfold withT
  rw [List.take_zero, List.drop_eq_nil_of_le (by omega)]; simp
theorem div_len {f : List Itm} (h5 : f.length ≤ 5) : ∀ g ∈ divL f, lowT (divL f) ≤ g.length ∧ g.length ≤ 4 := by
  intro g hg
  rcases divL_len h5 g hg with ⟨h3, rfl, h4⟩ | ⟨h3, h4, h6⟩
  · have : (divL g).length = 1 := by
      unfold divL; rw [if_neg (by omega), if_pos h3]; rfl
    unfold lowT; rw [if_pos this]; omega
  · have := lowT_le (divL f); omega
theorem VT.ins {t : List (List Itm)} (h : VT t) {x : Itm} (hx : okI x = true) (hn : hasI (flatT t) x = false) (hl : (flatT t).length < 30) : VT (insT t x) := by
  have hfl := flatT_ins h.srt h.ne x
  refine ⟨?_, by rw [hfl, putL_len1 h.srt hn]; omega, ?_⟩
  · unfold insT
    split
    · rename_i h0
      have hp := leafAt_lt x h0
      have hmem : t[leafAt t x t.length] ∈ t := List.getElem_mem hp
      have hnl : hasI t[leafAt t x t.length] x = false := by
        cases hq : hasI t[leafAt t x t.length] x with
        | false => rfl
        | true =>
          have := (has_leaf h.srt h.ne x h0).2 (hasI_iff.1 hq)
          rw [hasI_iff.2 this] at hn; cases hn
      have hlen := putL_len1 (srt_sub h.srt hmem) hnl
      have hb := h.len _ hmem
      by_cases h1 : t.length = 1
      · have hp0 : leafAt t x t.length = 0 := by omega
        simp only [hp0] at hlen hb ⊢
        rw [with_one h1]
        exact div_len (by omega)
      · have h2 : 2 ≤ t.length := by omega
        rw [lowT_two h2] at hb
        exact with_len h h2 (by omega) (by omega)
    · intro g hg
      simp at hg
      subst hg
      simp [lowT]
  · rw [hfl]
    refine srt_ordIT (srt_putL h.srt x) fun y hy => ?_
    rcases mem_putL'.1 hy with rfl | hy
    · exact hx
    · exact ordI_okT h.ord y hy
/-- the tree without an item -/
def delAt (t : List (List Itm)) (p : Nat) (x : Itm) : List (List Itm) :=
    if 2 ≤ (delL (t.getD p []) x).length ∨ t.length = 1 then withT t p 1 (delL (t.getD p []) x)
    else if p = 0 then withT t 0 2 (delL (t.getD p []) x ++ t.getD 1 [])
    else withT t (p - 1) 2 (t.getD (p - 1) [] ++ delL (t.getD p []) x)
def delT (t : List (List Itm)) (x : Itm) : List (List Itm) := if 0 < t.length then delAt t (leafAt t x t.length) x else t
theorem getD_at {t : List (List Itm)} {p : Nat} (h : p < t.length) : t.getD p [] = t[p] := by
  rw [List.getD_eq_getElem?_getD, List.getElem?_eq_getElem h]; rfl
theorem flatT_del {t : List (List Itm)} (h : SrtI (flatT t)) (hne : ∀ f ∈ t, 1 ≤ f.length) (x : Itm) : flatT (delT t x) = delL (flatT t) x := by
  unfold delT
  split
  · rename_i h0
    have hp := leafAt_lt x h0
    obtain ⟨hA, hC⟩ := leaf_mid h hne x h0
    have hR : delL (flatT t) x = flatT (t.take (leafAt t x t.length)) ++ delL (t.getD (leafAt t x t.length) []) x ++ flatT (t.drop (leafAt t x t.length + 1)) := by
      conv => lhs; rw [flatT_split hp]
      rw [getD_at hp]
      exact delL_mid hA hC
    clear hA hC
    generalize leafAt t x t.length = p at *
    unfold delAt
    split
    · rw [flatT_with, hR]
    · rename_i hc
      have h2 : 2 ≤ t.length := by omega
      split
      · rename_i hp0
        subst hp0
        rw [flatT_with, hR]
        have e1 : t.drop 1 = t.getD 1 [] :: t.drop 2 := by
          rw [List.drop_eq_getElem_cons (by omega)]
          congr 1
          rw [List.getD_eq_getElem?_getD, List.getElem?_eq_getElem (by omega)]; rfl
        rw [show (0 : Nat) + 1 = 1 from rfl, e1]
        simp [flatT]
      · rename_i hp0
        rw [flatT_with, hR, show p - 1 + 2 = p + 1 by omega]
        have e1 : t.take p = t.take (p - 1) ++ [t.getD (p - 1) []] := by
          conv => lhs; rw [show p = (p - 1) + 1 by omega, List.take_succ_eq_append_getElem (by omega)]
          congr 2
          rw [List.getD_eq_getElem?_getD, List.getElem?_eq_getElem (by omega)]; rfl
        rw [e1]
        simp [flatT]
  · rename_i h0
    have : t = [] := List.length_eq_zero_iff.1 (by omega)
    subst this
    rfl
theorem VT.del {t : List (List Itm)} (h : VT t) {x : Itm} (hn : hasI (flatT t) x = true) : VT (delT t x) := by
  have hfl := flatT_del h.srt h.ne x
  have hd := delL_len1 h.srt hn
  refine ⟨?_, by rw [hfl]; have := h.n; omega, ?_⟩
  · unfold delT
    split
    · rename_i h0
      have hp := leafAt_lt x h0
      have hmem : t[leafAt t x t.length] ∈ t := List.getElem_mem hp
      have hnl : hasI t[leafAt t x t.length] x = true := hasI_iff.2 ((has_leaf h.srt h.ne x h0).1 (hasI_iff.1 hn))
      have hlen := delL_len1 (srt_sub h.srt hmem) hnl
      have hb := h.len _ hmem
      rw [← getD_at hp] at hlen hb
      clear hmem hnl
      generalize leafAt t x t.length = p at *
      unfold delAt
      split
      · rename_i hc
        by_cases h1 : t.length = 1
        · have hp0 : p = 0 := by omega
          subst hp0
          rw [with_one h1]
          exact div_len (by omega)
        · have h2 : 2 ≤ t.length := by omega
          rw [lowT_two h2] at hb
          exact with_len h h2 (by omega) (by omega)
      · rename_i hc
        have h2 : 2 ≤ t.length := by omega
        rw [lowT_two h2] at hb
        have hnb : ∀ i, i < t.length → 2 ≤ (t.getD i []).length ∧ (t.getD i []).length ≤ 4 := fun i hi => by
          have e : t.getD i [] = t[i] := by rw [List.getD_eq_getElem?_getD, List.getElem?_eq_getElem hi]; rfl
          have := h.len _ (List.getElem_mem hi)
          rw [lowT_two h2] at this
          rw [e]; exact this
        split
        · have := hnb 1 (by omega)
          exact with_len h h2 (by rw [List.length_append]; omega) (by rw [List.length_append]; omega)
        · have := hnb (p - 1) (by omega)
          exact with_len h h2 (by rw [List.length_append]; omega) (by rw [List.length_append]; omega)
    · exact h.len
  · rw [hfl]
    exact srt_ordIT (srt_delL h.srt x) (fun y hy => ordI_okT h.ord y (mem_delL.1 hy).1)
theorem VT.load {l : List Itm} (h : ordI l) (hl : l.length ≤ 30) : VT (loadT l) := by
  have hf := flatT_load hl
  refine ⟨?_, by rw [hf]; exact hl, by rw [hf]; exact h⟩
  intro g hg
  unfold loadT at hg
  rw [List.mem_map] at hg
  obtain ⟨i, hi, rfl⟩ := hg
  have hi' : i < loadN l.length := List.mem_range.1 hi
  obtain ⟨h1, h2⟩ := loadSz_ok l.length (by omega) i hi'
  have hlen : (loadT l).length = loadN l.length := by unfold loadT; simp
  have hfr : ∀ k, k ≤ loadN l.length → loadFrom l.length k ≤ loadFrom l.length (loadN l.length) := by
    intro k hk
    obtain ⟨d, hd⟩ : ∃ d, loadN l.length = k + d := ⟨loadN l.length - k, by omega⟩
    rw [hd]
    clear hd hk
    induction d with
    | zero => exact Nat.le_refl _
    | succ d ih =>
      have : loadFrom l.length (k + (d + 1)) = loadFrom l.length (k + d) + loadSz l.length (k + d) := rfl
      omega
  have hend := loadFrom_end l.length (by omega)
  have hk := hfr (i + 1) (by omega)
  have hst : loadFrom l.length (i + 1) = loadFrom l.length i + loadSz l.length i := rfl
  have hsz : ((l.drop (loadFrom l.length i)).take (loadSz l.length i)).length = loadSz l.length i := by
    rw [List.length_take, List.length_drop]; omega
  unfold lowT
  rw [hlen, hsz]
  exact ⟨h1, h2⟩
end Go.Proofs.Ytmlphdniiiijpaa
