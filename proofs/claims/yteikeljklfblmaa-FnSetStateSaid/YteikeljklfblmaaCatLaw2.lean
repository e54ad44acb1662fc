/-
  The plain law of SetState; a name told twice is no catalog.
-/
import Derived.Test.YteikeljklfblmaaCatLaw
set_option linter.all false
namespace Go.Proofs.Yteikeljklfblmaa
open Go.RowKit
theorem setOk_parts {l : List Ent} {nm : ByteArray} {st : Int} (h : setOk l nm st = true) : Cat l ∧ ∃ k, ∃ hk : k < l.length, findI l nm = (k : Int) ∧ l[k].n = nm ∧ mtB l[k].t = false ∧ l[k].s < st ∧ st ≤ 2 := by
  simp only [setOk, Bool.and_eq_true, decide_eq_true_eq] at h
  obtain ⟨hc, h0, ha⟩ := h
  refine ⟨cat_iff.1 hc, ?_⟩
  rcases findI_cases l nm with ⟨k, hk, hf, -, hq, -⟩ | ⟨hf, -⟩
  · unfold setAt at ha
    rw [hf] at ha
    simp only [Int.toNat_natCast, List.getElem?_eq_getElem hk, Bool.and_eq_true, Bool.not_eq_true', decide_eq_true_eq] at ha
    exact ⟨k, hk, hf, eqS_eq hq, ha.1, ha.2⟩
  · omega
theorem set_map {l : List Ent} {k : Nat} (hk : k < l.length) (st : Int) : (l.set k ⟨l[k].n, l[k].t, st⟩).map Ent.n = l.map Ent.n := by
  apply List.ext_getElem
  · simp
  · intro i h1 h2
    simp only [List.getElem_map, List.getElem_set]
    split
    · rename_i h; subst h; rfl
    · rfl
structure SetLaw (l R : List Ent) (nm : ByteArray) : Prop where
  len : R.length = l.length
  cat : catB R = true
  back : setOk R nm 0 = false
  each : ∀ i (h : i < l.length) (h' : i < R.length), R[i].n = l[i].n ∧ R[i].t = l[i].t ∧ (l[i].n = nm ∧ l[i].s < R[i].s ∨ l[i].n ≠ nm ∧ R[i].s = l[i].s)
theorem set_law {l : List Ent} {nm : ByteArray} {st : Int} (h : setOk l nm st = true) : SetLaw l (setR l nm st) nm := by
  obtain ⟨⟨hlen, hn, hd, hs⟩, k, hk, hf, hkn, hkt, hks, hst⟩ := setOk_parts h
  have hR : setR l nm st = l.set k ⟨l[k].n, l[k].t, st⟩ := by rw [setR, if_pos h, hf, Int.toNat_natCast, setL_at hk]
  have hk0 : 0 ≤ l[k].s := ((hs _ (List.getElem_mem hk)).2 hkt).1.1
  rw [hR]
  have hget : ∀ i (h : i < l.length) (h' : i < (l.set k ⟨l[k].n, l[k].t, st⟩).length), (l.set k ⟨l[k].n, l[k].t, st⟩)[i].n = l[i].n ∧ (l.set k ⟨l[k].n, l[k].t, st⟩)[i].t = l[i].t ∧ (l[i].n = nm ∧ l[i].s < (l.set k ⟨l[k].n, l[k].t, st⟩)[i].s ∨ l[i].n ≠ nm ∧ (l.set k ⟨l[k].n, l[k].t, st⟩)[i].s = l[i].s) := by
    intro i hi hi'
    rw [List.getElem_set]
    split
    · rename_i hki; subst hki
      exact ⟨rfl, rfl, .inl ⟨hkn, hks⟩⟩
    · rename_i hki
      exact ⟨rfl, rfl, .inr ⟨fun he => hki (dist_at hd hk hi (by rw [hkn, he])), rfl⟩⟩
  have hcat : Cat (l.set k ⟨l[k].n, l[k].t, st⟩) := by
    refine ⟨by simpa using hlen, ?_, ?_, ?_⟩
    · intro e he
      rcases List.mem_or_eq_of_mem_set he with he | rfl
      · exact hn e he
      · exact hn l[k] (List.getElem_mem hk)
    · rw [set_map hk]; exact hd
    · have hex : ∀ f ∈ l, ∃ f' ∈ l.set k ⟨l[k].n, l[k].t, st⟩, f'.n = f.n ∧ f'.t = f.t := by
        intro f hfm
        obtain ⟨i, hi, rfl⟩ := List.getElem_of_mem hfm
        have hi' : i < (l.set k ⟨l[k].n, l[k].t, st⟩).length := by simpa using hi
        exact ⟨_, List.getElem_mem hi', (hget i hi hi').1, (hget i hi hi').2.1⟩
      intro e he
      rcases List.mem_or_eq_of_mem_set he with he | rfl
      · refine ⟨(hs e he).1, fun hm => ?_⟩
        obtain ⟨hb, f, hfm, hfn, hft⟩ := (hs e he).2 hm
        obtain ⟨f', hf', h1, h2⟩ := hex f hfm
        exact ⟨hb, f', hf', by rw [h1, hfn], by rw [h2]; exact hft⟩
      · refine ⟨fun hm => absurd (hkt.symm.trans hm) (by simp), fun hm => ?_⟩
        obtain ⟨hb, f, hfm, hfn, hft⟩ := (hs _ (List.getElem_mem hk)).2 hkt
        obtain ⟨f', hf', h1, h2⟩ := hex f hfm
        exact ⟨⟨by show 0 ≤ st; omega, hst⟩, f', hf', by rw [h1, hfn], by rw [h2]; exact hft⟩
  refine ⟨by simp, cat_iff.2 hcat, ?_, hget⟩
  cases hq : setOk (l.set k ⟨l[k].n, l[k].t, st⟩) nm 0 with
  | false => rfl
  | true =>
    obtain ⟨-, j, hj, hfj, hjn, hjt, hjs, -⟩ := setOk_parts hq
    have hj' : j < l.length := by simpa using hj
    obtain ⟨h1, h2, h3⟩ := hget j hj' hj
    have hjk : j = k := dist_at hd hj' hk (by rw [← h1, hjn, hkn])
    subst hjk
    rcases h3 with ⟨-, h3⟩ | ⟨h3, -⟩
    · omega
    · exact absurd hkn h3
theorem twice_law {l : List Ent} {i : Nat} (hi : i < l.length) : catB (l ++ [l[i]]) = false := by
  cases hq : catB (l ++ [l[i]]) with
  | false => rfl
  | true =>
    have := (cat_iff.1 hq).2.2.1
    rw [List.map_append, List.pairwise_append] at this
    exact absurd rfl (this.2.2 l[i].n (List.mem_map_of_mem (List.getElem_mem hi)) l[i].n (by simp))
end Go.Proofs.Yteikeljklfblmaa
