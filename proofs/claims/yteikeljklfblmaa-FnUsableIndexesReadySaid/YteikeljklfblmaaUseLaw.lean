/-
  The plain law of UsableIndexes.
-/
import Derived.Test.YteikeljklfblmaaUse
set_option linter.all false
namespace Go.Proofs.Yteikeljklfblmaa
open Go.RowKit
theorem use_sub (l : List Ent) (tb : ByteArray) : (useR l tb false).Sublist (useR l tb true) := by
  unfold useR
  split
  · refine List.Sublist.map _ ?_
    have h : l.filter (useE tb false) = (l.filter (useE tb true)).filter (useE tb false) := by
      rw [List.filter_filter]
      apply List.filter_congr
      intro e _
      by_cases h1 : eqS e.t tb = true
      · by_cases h2 : e.s = 1
        · simp [useE, h1, h2]
        · simp [useE, h1, h2]
      · simp [useE, h1]
    rw [h]
    exact List.filter_sublist
  · exact List.Sublist.refl _
theorem sub_hit {a b : List ByteArray} {n k : Nat} (hn : n < a.length) (hk : k < b.length) (h : (a.drop n).Sublist (b.drop k)) (he : a[n] = b[k]) : (a.drop (n + 1)).Sublist (b.drop (k + 1)) := by
  rw [List.drop_eq_getElem_cons hn, List.drop_eq_getElem_cons hk, he] at h
  exact List.cons_sublist_cons.1 h
theorem sub_miss {a b : List ByteArray} {n k : Nat} (hn : n < a.length) (hk : k < b.length) (h : (a.drop n).Sublist (b.drop k)) (he : a[n] ≠ b[k]) : (a.drop n).Sublist (b.drop (k + 1)) := by
  rw [List.drop_eq_getElem_cons hn, List.drop_eq_getElem_cons hk] at h
  rw [List.drop_eq_getElem_cons hn]
  rcases List.sublist_cons_iff.1 h with h' | ⟨r, hr, -⟩
  · exact h'
  · injection hr with h1 _
    exact absurd h1 he
theorem sub_end {a b : List ByteArray} {n : Nat} (hn : n ≤ a.length) (h : (a.drop n).Sublist (b.drop b.length)) : n = a.length := by
  have := h.length_le
  simp at this
  omega
def tbF (nm : ByteArray) (l : List Ent) : ByteArray := l.foldl (fun b e => if eqS e.n nm then e.t else b) ⟨#[]⟩
theorem tbF_take {l : List Ent} {k : Nat} (h : k < l.length) (nm : ByteArray) : tbF nm (l.take (k + 1)) = if eqS l[k].n nm then l[k].t else tbF nm (l.take k) := by
  unfold tbF
  rw [List.take_succ_eq_append_getElem h, List.foldl_append]
  rfl
theorem tbF_fold (nm t : ByteArray) : ∀ (l : List Ent) (b : ByteArray), (∀ e ∈ l, e.n = nm → e.t = t) → ((∃ e ∈ l, e.n = nm) ∨ b = t) → l.foldl (fun b e => if eqS e.n nm then e.t else b) b = t
  | [], b, _, h => by
    rcases h with ⟨e, he, _⟩ | h
    · simp at he
    · exact h
  | e :: l, b, ha, h => by
    rw [List.foldl_cons]
    refine tbF_fold nm t l _ (fun x hx => ha x (by simp [hx])) ?_
    by_cases hq : eqS e.n nm = true
    · rw [if_pos hq]; exact .inr (ha e (by simp) (eqS_eq hq))
    · rw [if_neg hq]
      rcases h with ⟨x, hx, hxn⟩ | h
      · rcases List.mem_cons.1 hx with rfl | hx
        · exact absurd (eqS_iff.2 hxn) hq
        · exact .inl ⟨x, hx, hxn⟩
      · exact .inr h
def anyF (nm : ByteArray) (ts : List ByteArray) : Bool := ts.any (fun t => eqS t nm)
theorem anyF_take {ts : List ByteArray} {k : Nat} (h : k < ts.length) (nm : ByteArray) : anyF nm (ts.take (k + 1)) = (anyF nm (ts.take k) || eqS ts[k] nm) := by
  unfold anyF
  rw [List.take_succ_eq_append_getElem h, List.any_append]
  simp
theorem hasTB_of {R : List Ent} (hc : Cat R) {f : Ent} {tb : ByteArray} (hf : f ∈ R) (hn : f.n = tb) (ht : mtB f.t = true) : hasTB R tb = true := by
  obtain ⟨m, hm, rfl⟩ := List.getElem_of_mem hf
  rcases findI_cases R tb with ⟨k, hk, -, h1, hq, -⟩ | ⟨-, -, hno⟩
  · rw [h1]
    have : k = m := dist_at hc.2.2.1 hk hm (by rw [eqS_eq hq, hn])
    subst this; exact ht
  · exact absurd hn (eqS_ne (hno m hm))
theorem any_use {R : List Ent} {nm tb : ByteArray} {ch : Bool} (hc : Cat R) (hok : useOk R tb = true) {k : Nat} (hk : k < R.length) (hn : R[k].n = nm) : anyF nm (useR R tb ch) = useE tb ch R[k] := by
  rw [useR, if_pos hok]
  cases hu : useE tb ch R[k] with
  | true =>
    unfold anyF
    rw [List.any_eq_true]
    exact ⟨R[k].n, List.mem_map_of_mem (List.mem_filter.2 ⟨List.getElem_mem hk, hu⟩), eqS_iff.2 hn⟩
  | false =>
    cases hq : anyF nm ((R.filter (useE tb ch)).map Ent.n) with
    | false => rfl
    | true =>
      unfold anyF at hq
      rw [List.any_eq_true] at hq
      obtain ⟨t, ht, he⟩ := hq
      obtain ⟨e, hef, rfl⟩ := List.mem_map.1 ht
      obtain ⟨hem, heu⟩ := List.mem_filter.1 hef
      obtain ⟨j, hj, rfl⟩ := List.getElem_of_mem hem
      have : j = k := dist_at hc.2.2.1 hj hk (by rw [eqS_eq he, hn])
      subst this
      rw [hu] at heu; cases heu
theorem ready_law {l : List Ent} {nm : ByteArray} {st : Int} (h : setOk l nm st = true) :
    anyF nm (useR (setR l nm st) (tbF nm (setR l nm st)) false) = (st == 1) ∧ anyF nm (useR (setR l nm st) (tbF nm (setR l nm st)) true) = (st == 1) := by
  have LW := set_law h
  obtain ⟨⟨hlen, hn, hd, hs⟩, k, hk, hf, hkn, hkt, hks, hst⟩ := setOk_parts h
  have hk0 : 0 ≤ l[k].s := ((hs _ (List.getElem_mem hk)).2 hkt).1.1
  have hR : setR l nm st = l.set k ⟨l[k].n, l[k].t, st⟩ := by rw [setR, if_pos h, hf, Int.toNat_natCast, setL_at hk]
  have hkR : k < (setR l nm st).length := by rw [LW.len]; exact hk
  have hRk : (setR l nm st)[k] = ⟨l[k].n, l[k].t, st⟩ := by simp [hR]
  generalize setR l nm st = R at *
  have hc := cat_iff.1 LW.cat
  have htb : tbF nm R = l[k].t := by
    refine tbF_fold nm l[k].t R _ ?_ (.inl ⟨R[k], List.getElem_mem hkR, by rw [hRk]; exact hkn⟩)
    intro e he hen
    obtain ⟨j, hj, rfl⟩ := List.getElem_of_mem he
    have : j = k := dist_at hc.2.2.1 hj hkR (by rw [hen, hRk]; exact hkn.symm)
    subst this
    rw [hRk]
  rw [htb]
  obtain ⟨-, f, hfm, hfn, hft⟩ := (hc.2.2.2 R[k] (List.getElem_mem hkR)).2 (by rw [hRk]; exact hkt)
  have hok : useOk R l[k].t = true := by
    rw [useOk, LW.cat, Bool.true_and]
    exact hasTB_of hc hfm (by rw [hfn, hRk]) hft
  have hkn' : R[k].n = nm := by rw [hRk]; exact hkn
  rw [any_use hc hok hkR hkn', any_use hc hok hkR hkn', hRk]
  have h0 : ¬ st = 0 := by omega
  simp [useE, eqS, h0]
end Go.Proofs.Yteikeljklfblmaa
