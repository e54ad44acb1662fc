/-
  A row that fits, after a change: it fits the new format.
-/
import Derived.Test.YtdijcdadcbhipaaDoorFPl
import Derived.Test.YtdijcdadcbhipaaDoorFSr
set_option linter.all false
namespace Go.Proofs.YtdijcdadcbhipaaDoor
open Go.RowKit
theorem fit_zip {f : List RCol} {r : List RVal} (h : fitB f r = true) : (r.zip f).all fitP = true := by
  unfold fitB at h; simp only [Bool.and_eq_true] at h; exact h.2
theorem fit_mk {f : List RCol} {r : List RVal} (h1 : fmtB f = true) (h2 : r.length = f.length) (h3 : (r.zip f).all fitP = true) : fitB f r = true := by
  unfold fitB; rw [h1, h3, decide_eq_true h2]; rfl
theorem fitP_iff {x : RVal} {c : RCol} : fitP (x, c) = true ↔ valB x = true ∧ (x.k = 0 ∨ x.k = c.k) := by
  unfold fitP fitK; simp
theorem zip_take' : ∀ (r : List RVal) (f : List RCol) (i : Nat), (r.take i).zip (f.take i) = (r.zip f).take i
  | [], _, _ => by simp
  | _ :: _, [], _ => by simp
  | _ :: _, _ :: _, 0 => by simp
  | _ :: r, _ :: f, i + 1 => by simp [zip_take' r f i]
theorem zip_drop' : ∀ (r : List RVal) (f : List RCol) (i : Nat), (r.drop i).zip (f.drop i) = (r.zip f).drop i
  | [], _, _ => by simp
  | _ :: _, [], _ => by simp
  | _ :: _, _ :: _, 0 => by simp
  | _ :: r, _ :: f, i + 1 => by simp [zip_drop' r f i]
theorem fit_new {f : List RCol} {r : List RVal} {c : RChg} (h : fitB f r = true) (hp : posB f c = true) : fitB (newC f c) (newR r c) = true := by
  obtain ⟨h1, h5, hl, hfm, hv⟩ := fit_of h
  have hz := fit_zip h
  have hfn := fmt_new hfm hp
  obtain ⟨i, hi, hil, hc⟩ := pos_at hp
  have ht : c.a.toNat = i := by omega
  have htk : (r.take i).length = (f.take i).length := by rw [List.length_take, List.length_take]; omega
  rcases hc with ⟨hk, -, hcc, e⟩ | ⟨hk, hlt, -, e⟩ | ⟨hk, hlt, hk1, e⟩
  · have er : newR r c = r.take i ++ [c.c.d] ++ r.drop i := by unfold newR; rw [if_pos hk, ht]
    refine fit_mk hfn (by rw [er, e]; simp; omega) ?_
    rw [er, e, List.zip_append (by simp; omega), List.zip_append htk, zip_take', zip_drop', List.all_append, List.all_append, all_take hz, all_drop hz]
    obtain ⟨-, q1, q2⟩ := colB_iff.1 hcc
    have := fitP_iff.2 ⟨q1, q2.symm⟩
    simp [this]
  · have er : newR r c = r.take i ++ r.drop (i + 1) := by unfold newR; rw [if_neg (by omega), if_pos hk, ht]
    refine fit_mk hfn (by rw [er, e]; simp; omega) ?_
    rw [er, e, List.zip_append htk, zip_take', zip_drop', List.all_append, all_take hz, all_drop hz]; rfl
  · have hlr : i < r.length := by omega
    have er : newR r c = r.take i ++ [widV r[i]] ++ r.drop (i + 1) := by unfold newR; rw [if_neg (by omega), if_neg (by omega), ht, drop_one hlr]; rfl
    refine fit_mk hfn (by rw [er, e]; simp; omega) ?_
    rw [er, e, List.zip_append (by simp; omega), List.zip_append htk, zip_take', zip_drop', List.all_append, List.all_append, all_take hz, all_drop hz]
    have hzi : i < (r.zip f).length := by rw [List.length_zip]; omega
    have hpi : fitP (r[i], f[i]) = true := by
      have := List.all_eq_true.1 hz _ (List.getElem_mem hzi)
      rwa [List.getElem_zip] at this
    obtain ⟨q1, q2⟩ := fitP_iff.1 hpi
    have q3 := wid_k (v := r[i]) (j := 1) (by rcases q2 with q | q; exact .inr q; exact .inl (q.trans hk1)) rfl
    have := fitP_iff (x := widV r[i]) (c := ⟨2, widV f[i].d⟩)
    have := this.2 ⟨val_wid q1, q3.symm⟩
    simp [this]
theorem chR_some {f : List RCol} {r g : List RVal} {c : RChg} (h : chR f r c = some g) : fitB f r = true ∧ posB f c = true ∧ g = newR r c := by
  unfold chR at h
  split at h
  · rename_i hh
    simp at hh
    injection h with h
    exact ⟨hh.1, hh.2, h.symm⟩
  · cases h
theorem chC_of {f : List RCol} {r : List RVal} {c : RChg} (h1 : fitB f r = true) (h2 : posB f c = true) : chC f c = some (newC f c) := by
  unfold chC; rw [(fit_of h1).2.2.2.1, h2]; rfl
theorem chR_none {f G : List RCol} {r : List RVal} {c : RChg} (h : chR f r c = none) (h' : chC f c = some G) : fitB f r = false := by
  obtain ⟨-, hp, -⟩ := chC_some h'
  cases hf : fitB f r with
  | false => rfl
  | true => unfold chR at h; rw [hf, hp] at h; simp at h
end Go.Proofs.YtdijcdadcbhipaaDoor
