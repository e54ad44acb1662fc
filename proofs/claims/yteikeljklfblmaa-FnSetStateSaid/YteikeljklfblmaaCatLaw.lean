/-
  The plain law of catalogs: what a valid catalog is, and what becomes of it when entries are dropped, added and changed.
-/
import Derived.Test.YteikeljklfblmaaEqE
set_option linter.all false
namespace Go.Proofs.Yteikeljklfblmaa
open Go.RowKit
theorem eqS_iff {a b : ByteArray} : eqS a b = true ↔ a = b := ⟨eqS_eq, fun h => by subst h; simp [eqS]⟩
theorem eqS_ne {a b : ByteArray} (h : eqS a b = false) : a ≠ b := fun e => by rw [eqS_iff.2 e] at h; cases h
theorem eqS_false {a b : ByteArray} (h : a ≠ b) : eqS a b = false := by
  cases hq : eqS a b
  · rfl
  · exact absurd (eqS_iff.1 hq) h
theorem mtB_name {a b : ByteArray} (h : mtB a = true) (hb : nameB b = true) : a ≠ b := by
  rintro rfl
  simp only [nameB, Bool.and_eq_true, decide_eq_true_eq] at hb
  have h1 : a.toList = [] := by simpa [mtB] using h
  rw [ByteArray.toList_eq] at h1
  have : a.size = 0 := by
    rw [show a.size = a.data.toList.length from rfl, h1]; rfl
  omega
def Cat (l : List Ent) : Prop := l.length ≤ 12 ∧ (∀ e ∈ l, nameB e.n = true) ∧ (l.map Ent.n).Pairwise (· ≠ ·) ∧ ∀ e ∈ l, (mtB e.t = true → e.s = 1) ∧ (mtB e.t = false → (0 ≤ e.s ∧ e.s ≤ 2) ∧ ∃ f ∈ l, f.n = e.t ∧ mtB f.t = true)
theorem find_iff {l : List Ent} {nm : ByteArray} : 0 ≤ findI l nm ↔ ∃ e ∈ l, e.n = nm := by
  rcases findI_cases l nm with ⟨k, hk, hf, -, hq, -⟩ | ⟨hf, -, hno⟩
  · exact ⟨fun _ => ⟨l[k], List.getElem_mem hk, eqS_eq hq⟩, fun _ => by omega⟩
  · refine ⟨fun h => by omega, fun ⟨e, he, hn⟩ => ?_⟩
    obtain ⟨j, hj, rfl⟩ := List.getElem_of_mem he
    exact absurd hn (eqS_ne (hno j hj))
theorem dist_at {l : List Ent} (h : (l.map Ent.n).Pairwise (· ≠ ·)) {i j : Nat} (hi : i < l.length) (hj : j < l.length) (he : l[i].n = l[j].n) : i = j := by
  rw [List.pairwise_iff_getElem] at h
  rcases Nat.lt_trichotomy i j with hlt | heq | hgt
  · exact absurd (by rw [List.getElem_map, List.getElem_map]; exact he) (h i j (by simpa using hi) (by simpa using hj) hlt)
  · exact heq
  · exact absurd (by rw [List.getElem_map, List.getElem_map]; exact he.symm) (h j i (by simpa using hj) (by simpa using hi) hgt)
theorem cat_iff {l : List Ent} : catB l = true ↔ Cat l := by
  constructor
  · intro h
    obtain ⟨hlen, ha⟩ := cat_of h
    have hE : ∀ i (hi : i < l.length), nameB l[i].n = true ∧ findI l l[i].n = (i : Int) ∧ (if mtB l[i].t then decide (l[i].s = 1) else (hasTB l l[i].t && decide (0 ≤ l[i].s ∧ l[i].s ≤ 2))) = true := by
      intro i hi
      have := ha i hi
      simp only [entOK, Bool.and_eq_true, decide_eq_true_eq] at this
      exact ⟨this.1.1, this.1.2, this.2⟩
    refine ⟨hlen, ?_, ?_, ?_⟩
    · intro e he
      obtain ⟨i, hi, rfl⟩ := List.getElem_of_mem he
      exact (hE i hi).1
    · rw [List.pairwise_iff_getElem]
      intro i j hi hj hlt heq
      simp only [List.length_map] at hi hj
      simp only [List.getElem_map] at heq
      have hfj := (hE j hj).2.1
      have hfi := (hE i hi).2.1
      rw [heq, hfj] at hfi
      omega
    · intro e he
      obtain ⟨i, hi, rfl⟩ := List.getElem_of_mem he
      have h3 := (hE i hi).2.2
      refine ⟨fun hm => by simpa [hm] using h3, fun hm => ?_⟩
      rw [hm] at h3
      simp only [Bool.false_eq_true, if_false, Bool.and_eq_true, decide_eq_true_eq] at h3
      refine ⟨h3.2, ?_⟩
      rcases findI_cases l l[i].t with ⟨k, hk, -, ht, hq, -⟩ | ⟨-, ht, -⟩
      · exact ⟨l[k], List.getElem_mem hk, eqS_eq hq, by rw [← ht]; exact h3.1⟩
      · rw [ht] at h3; exact absurd h3.1 (by simp)
  · rintro ⟨hlen, hn, hd, hs⟩
    refine cat_good hlen fun i hi => ?_
    have hfi : findI l l[i].n = (i : Int) := findI_at hi (eqS_iff.2 rfl) fun j hj => eqS_false fun he => by
      have := dist_at hd (by omega) hi he
      omega
    simp only [entOK, Bool.and_eq_true, decide_eq_true_eq]
    refine ⟨⟨hn _ (List.getElem_mem hi), hfi⟩, ?_⟩
    obtain ⟨h1, h2⟩ := hs _ (List.getElem_mem hi)
    by_cases hm : mtB l[i].t = true
    · simp [hm, h1 hm]
    · have hm' : mtB l[i].t = false := by simpa using hm
      obtain ⟨hb, f, hf, hfn, hft⟩ := h2 hm'
      obtain ⟨m, hml, rfl⟩ := List.getElem_of_mem hf
      rw [hm']
      simp only [Bool.false_eq_true, if_false, Bool.and_eq_true, decide_eq_true_eq]
      refine ⟨?_, hb⟩
      rcases findI_cases l l[i].t with ⟨k, hk, -, ht, hq, -⟩ | ⟨-, -, hno⟩
      · rw [ht]
        have : k = m := dist_at hd hk hml (by rw [eqS_eq hq, hfn])
        subst this
        exact hft
      · exact absurd hfn (eqS_ne (hno m hml))
theorem keep_iff {nm : ByteArray} {e : Ent} : keepE nm e = true ↔ e.n ≠ nm ∧ e.t ≠ nm := by
  simp only [keepE, Bool.and_eq_true, Bool.not_eq_true']
  exact ⟨fun ⟨h1, h2⟩ => ⟨eqS_ne h1, eqS_ne h2⟩, fun ⟨h1, h2⟩ => ⟨eqS_false h1, eqS_false h2⟩⟩
theorem dropOk_parts {l : List Ent} {nm : ByteArray} (h : dropOk l nm = true) : Cat l ∧ ∃ e ∈ l, e.n = nm := by
  simp only [dropOk, Bool.and_eq_true, decide_eq_true_eq] at h
  exact ⟨cat_iff.1 h.1, find_iff.1 h.2⟩
theorem drop_law {l : List Ent} {nm : ByteArray} (h : dropOk l nm = true) :
    catB (l.filter (keepE nm)) = true ∧ dropOk (l.filter (keepE nm)) nm = false ∧ (l.filter (keepE nm)).length < l.length := by
  obtain ⟨⟨hlen, hn, hd, hs⟩, e0, he0, hn0⟩ := dropOk_parts h
  have hnm : nameB nm = true := by rw [← hn0]; exact hn e0 he0
  have hlt : (l.filter (keepE nm)).length < l.length := by
    rw [List.length_filter_lt_length_iff_exists]
    exact ⟨e0, he0, fun hk => (keep_iff.1 hk).1 hn0⟩
  refine ⟨cat_iff.2 ⟨by omega, fun e he => hn e (List.mem_filter.1 he).1, ?_, ?_⟩, ?_, hlt⟩
  · exact hd.sublist (List.filter_sublist.map Ent.n)
  · intro e he
    obtain ⟨he1, he2⟩ := List.mem_filter.1 he
    refine ⟨(hs e he1).1, fun hm => ?_⟩
    obtain ⟨hb, f, hf, hfn, hft⟩ := (hs e he1).2 hm
    exact ⟨hb, f, List.mem_filter.2 ⟨hf, keep_iff.2 ⟨by rw [hfn]; exact (keep_iff.1 he2).2, mtB_name hft hnm⟩⟩, hfn, hft⟩
  · have : ¬ 0 ≤ findI (l.filter (keepE nm)) nm := by
      rw [find_iff]
      rintro ⟨e, he, hen⟩
      exact (keep_iff.1 (List.mem_filter.1 he).2).1 hen
    simp [dropOk, this]
def idxF (nm : ByteArray) (l : List Ent) : Bool := l.foldl (fun b e => if eqS e.n nm then !mtB e.t else b) false
theorem idxF_take {l : List Ent} {k : Nat} (h : k < l.length) (nm : ByteArray) : idxF nm (l.take (k + 1)) = if eqS l[k].n nm then !mtB l[k].t else idxF nm (l.take k) := by
  unfold idxF
  rw [List.take_succ_eq_append_getElem h, List.foldl_append]
  rfl
theorem idxF_some (nm : ByteArray) : ∀ (l : List Ent) (b : Bool), l.foldl (fun b e => if eqS e.n nm then !mtB e.t else b) b = true → b = true ∨ ∃ e ∈ l, e.n = nm ∧ mtB e.t = false
  | [], b, h => .inl h
  | e :: l, b, h => by
    rcases idxF_some nm l _ h with h1 | ⟨f, hf, h2⟩
    · have h1 : (if eqS e.n nm then !mtB e.t else b) = true := h1
      by_cases hq : eqS e.n nm = true
      · rw [if_pos hq] at h1
        exact .inr ⟨e, by simp, eqS_eq hq, by simpa using h1⟩
      · rw [if_neg hq] at h1
        exact .inl h1
    · exact .inr ⟨f, by simp [hf], h2⟩
theorem take_filter {l : List Ent} {k : Nat} (h : k < l.length) (p : Ent → Bool) : (l.take (k + 1)).filter p = (l.take k).filter p ++ (if p l[k] then [l[k]] else []) := by
  rw [List.take_succ_eq_append_getElem h, List.filter_append]
  congr 1
  simp [List.filter_cons]
def noName (nm : ByteArray) (e : Ent) : Bool := !eqS e.n nm
theorem drop_index {l : List Ent} {nm : ByteArray} (h : dropOk l nm = true) (hi : idxF nm l = true) : l.filter (noName nm) = l.filter (keepE nm) := by
  obtain ⟨⟨hlen, hn, hd, hs⟩, e0, he0, hn0⟩ := dropOk_parts h
  have hnm : nameB nm = true := by rw [← hn0]; exact hn e0 he0
  rcases idxF_some nm l false hi with h | ⟨g, hg, hgn, hgt⟩
  · cases h
  · apply List.filter_congr
    intro e he
    have : eqS e.t nm = false := eqS_false fun het => by
      have hm : mtB e.t = false := by
        cases hq : mtB e.t
        · rfl
        · exact absurd het (mtB_name hq hnm)
      obtain ⟨-, f, hf, hfn, hft⟩ := (hs e he).2 hm
      obtain ⟨i, hil, rfl⟩ := List.getElem_of_mem hf
      obtain ⟨j, hjl, rfl⟩ := List.getElem_of_mem hg
      have : i = j := dist_at hd hil hjl (by rw [hfn, het, hgn])
      subst this
      rw [hgt] at hft; cases hft
    simp [noName, keepE, this]
theorem add_law {l : List Ent} {x : Ent} (h : addOk l x = true) : dropOk (l ++ [x]) x.n = true ∧ (l ++ [x]).filter (keepE x.n) = l := by
  simp only [addOk, Bool.and_eq_true] at h
  obtain ⟨⟨hlen, hn, hd, hs⟩, hc2⟩ := And.intro (cat_iff.1 h.1) (cat_iff.1 h.2)
  have hxn : nameB x.n = true := hc2.2.1 x (by simp)
  have hne : ∀ e ∈ l, e.n ≠ x.n := by
    have := hc2.2.2.1
    rw [List.map_append, List.pairwise_append] at this
    intro e he
    exact this.2.2 e.n (List.mem_map_of_mem he) x.n (by simp)
  refine ⟨?_, ?_⟩
  · simp only [dropOk, Bool.and_eq_true, decide_eq_true_eq]
    exact ⟨h.2, find_iff.2 ⟨x, by simp, rfl⟩⟩
  · rw [List.filter_append]
    have h1 : l.filter (keepE x.n) = l := by
      rw [List.filter_eq_self]
      intro e he
      refine keep_iff.2 ⟨hne e he, fun het => ?_⟩
      have hm : mtB e.t = false := by
        cases hq : mtB e.t
        · rfl
        · exact absurd het (mtB_name hq hxn)
      obtain ⟨-, f, hf, hfn, -⟩ := (hs e he).2 hm
      exact hne f hf (by rw [hfn, het])
    have h2 : [x].filter (keepE x.n) = [] := by
      rw [List.filter_eq_nil_iff]
      intro e he
      simp at he; subst he
      exact fun hk => (keep_iff.1 hk).1 rfl
    rw [h1, h2, List.append_nil]
end Go.Proofs.Yteikeljklfblmaa
