/-
  What a change comes to, in plain terms: lengths, parts, validity.
-/
import Derived.Test.YtdijcdadcbhipaaDoorFSf
set_option linter.all false
namespace Go.Proofs.YtdijcdadcbhipaaDoor
open Go.RowKit
theorem dd_len (k : Nat) : ∀ u, u < 10 ^ (k + 1) → (Lib.decDigits u).length ≤ k + 1 := by
  induction k with
  | zero => intro u hu; rw [Lib.decDigits_one (by simpa using hu)]; simp
  | succ k ih =>
    intro u hu
    rw [Lib.decDigits]
    split
    · simp
    · rw [List.length_append]
      have := ih (u / 10) (by rw [Nat.pow_succ] at hu; omega)
      simp; omega
theorem dd_chr (u : Nat) : (Lib.decDigits u).all chB = true := by
  induction u using Nat.strongRecOn with
  | _ u ih =>
  rw [Lib.decDigits]
  have hd : ∀ i : Nat, i < 10 → chB (UInt8.ofNat (48 + i)) = true := by
    intro i hi
    have : (UInt8.ofNat (48 + i)).toNat = 48 + i := by simp; omega
    unfold chB
    rw [this]
    simp; omega
  split
  · rename_i h
    simp only [List.all_cons, List.all_nil, Bool.and_true]
    exact hd u h
  · rename_i h
    rw [List.all_append, ih (u / 10) (by omega)]
    simp only [List.all_cons, List.all_nil, Bool.and_true, Bool.true_and]
    exact hd (u % 10) (by omega)
theorem text_dec {n : Int} (h0 : -999999 ≤ n) (h1 : n ≤ 999999) : textB (decT n) = true := by
  unfold textB decT Lib.itoa
  by_cases hn : n < 0
  · rw [if_pos hn]
    have h2 := dd_len 5 n.natAbs (by omega)
    have h3 := dd_chr n.natAbs
    have h4 : chB 45 = true := by decide
    simp only [ByteArray.size, List.size_toArray, List.length_cons, List.all_cons, h3, h4]
    simp; omega
  · rw [if_neg hn]
    have h2 := dd_len 5 n.toNat (by omega)
    have h3 := dd_chr n.toNat
    simp only [ByteArray.size, List.size_toArray, h3]
    simp; omega
theorem val_wid {v : RVal} (h : valB v = true) : valB (widV v) = true := by
  unfold widV
  split
  · rename_i hk
    have := val_num h hk
    unfold valB
    rw [if_neg (by simp), if_neg (by simp), if_pos rfl, text_dec this.1 this.2]
    simp
  · exact h
theorem wid_k {v : RVal} {j : Int} (h : v.k = j ∨ v.k = 0) (hj : j = 1) : (widV v).k = 2 ∨ (widV v).k = 0 := by
  unfold widV
  split
  · exact .inl rfl
  · right; omega
theorem colB_iff {c : RCol} : colB c = true ↔ (c.k = 1 ∨ c.k = 2) ∧ valB c.d = true ∧ (c.d.k = c.k ∨ c.d.k = 0) := by
  unfold colB; simp [and_assoc]
theorem col_wid {x : RCol} (h : colB x = true) (hk : x.k = 1) : colB ⟨2, widV x.d⟩ = true := by
  obtain ⟨-, h1, h2⟩ := colB_iff.1 h
  rw [colB_iff]
  exact ⟨.inr rfl, val_wid h1, wid_k h2 hk⟩
/-- the place of a change that is possible -/
theorem pos_at {f : List RCol} {c : RChg} (h : posB f c = true) : ∃ i : Nat, c.a = (i : Int) ∧ i ≤ f.length ∧
    ((c.k = 1 ∧ f.length < 5 ∧ colB c.c = true ∧ newC f c = f.take i ++ [c.c] ++ f.drop i) ∨ (c.k = 2 ∧ i < f.length ∧ 1 < f.length ∧ newC f c = f.take i ++ f.drop (i + 1)) ∨
     (c.k = 3 ∧ ∃ h : i < f.length, f[i].k = 1 ∧ newC f c = f.take i ++ [⟨2, widV f[i].d⟩] ++ f.drop (i + 1))) := by
  unfold posB at h
  split at h
  · rename_i hk
    simp at h
    refine ⟨c.a.toNat, by omega, by omega, .inl ⟨hk, h.1.2, h.2, ?_⟩⟩
    unfold newC; rw [if_pos hk]
  · rename_i hk1
    split at h
    · rename_i hk
      simp at h
      refine ⟨c.a.toNat, by omega, by omega, .inr (.inl ⟨hk, by omega, h.2, ?_⟩)⟩
      unfold newC; rw [if_neg hk1, if_pos hk]
    · rename_i hk2
      split at h
      · rename_i hk
        simp at h
        obtain ⟨h0, h1⟩ := h
        have hlt : c.a.toNat < f.length := by
          by_cases q : c.a.toNat < f.length
          · exact q
          · rw [List.getElem?_eq_none (by omega)] at h1; simp at h1
        rw [List.getElem?_eq_getElem hlt] at h1
        refine ⟨c.a.toNat, by omega, by omega, .inr (.inr ⟨hk, hlt, by simpa using h1, ?_⟩)⟩
        unfold newC; rw [if_neg hk1, if_neg hk2, drop_one hlt]; rfl
      · cases h
theorem all_take {α : Type} {p : α → Bool} {l : List α} (h : l.all p = true) (i : Nat) : (l.take i).all p = true := List.all_eq_true.2 fun x hx => List.all_eq_true.1 h x (List.mem_of_mem_take hx)
theorem all_drop {α : Type} {p : α → Bool} {l : List α} (h : l.all p = true) (i : Nat) : (l.drop i).all p = true := List.all_eq_true.2 fun x hx => List.all_eq_true.1 h x (List.mem_of_mem_drop hx)
theorem fmt_mk {f : List RCol} (h1 : 1 ≤ f.length) (h5 : f.length ≤ 5) (h : f.all colB = true) : fmtB f = true := by
  unfold fmtB; rw [h]; simp; omega
theorem fmt_all {f : List RCol} (h : fmtB f = true) : f.all colB = true := by
  unfold fmtB at h; simp at h; rw [List.all_eq_true]; exact h.2
theorem fmt_new {f : List RCol} {c : RChg} (hf : fmtB f = true) (h : posB f c = true) : fmtB (newC f c) = true := by
  obtain ⟨i, -, hi, hc⟩ := pos_at h
  obtain ⟨l1, l5, -⟩ := fmt_len2 hf
  have ha := fmt_all hf
  rcases hc with ⟨-, h5, hcc, e⟩ | ⟨-, hlt, h2, e⟩ | ⟨-, hlt, hk, e⟩
  · rw [e]
    refine fmt_mk (by simp; omega) (by simp; omega) ?_
    rw [List.all_append, List.all_append, all_take ha, all_drop ha]; simp [hcc]
  · rw [e]
    refine fmt_mk (by simp; omega) (by simp; omega) ?_
    rw [List.all_append, all_take ha, all_drop ha]; rfl
  · rw [e]
    refine fmt_mk (by simp; omega) (by simp; omega) ?_
    rw [List.all_append, List.all_append, all_take ha, all_drop ha]
    have := col_wid (List.all_eq_true.1 ha _ (List.getElem_mem hlt)) hk
    simp [this]
theorem chC_some {f g : List RCol} {c : RChg} (h : chC f c = some g) : fmtB f = true ∧ posB f c = true ∧ g = newC f c := by
  unfold chC at h
  split at h
  · rename_i hh
    simp at hh
    injection h with h
    exact ⟨hh.1, hh.2, h.symm⟩
  · cases h
theorem take_app {α : Type} (f r : List α) (i : Nat) (hi : i ≤ f.length) : (f.take i ++ r).take i = f.take i := by
  rw [List.take_append_of_le_length (by simp; omega), List.take_take, Nat.min_self]
theorem drop_app {α : Type} (f r : List α) (i j : Nat) (hi : i ≤ f.length) : (f.take i ++ r).drop (i + j) = r.drop j := by
  rw [List.drop_append, List.length_take, Nat.min_eq_left hi, List.drop_of_length_le (by simp; omega), List.nil_append]
  congr 1; omega
end Go.Proofs.YtdijcdadcbhipaaDoor
