/-
  The active transactions: sorted once, they are those of the program. Rows that grow.
-/
import Derived.Test.YtnicjpfkiblimaaChk8
set_option linter.all false
namespace Go.Proofs.Ytnicjpfkiblimaa
open Go.RowKit
def actOne (l : List RNote) (xs : List Int) (n : RNote) : Bool := (!n.fin && !endB l n.owner) && !xs.contains n.owner
def actF (l : List RNote) : Nat → List Int
  | 0 => []
  | k + 1 => match l[k]? with
    | some n => if actOne l (actF l k) n then actF l k ++ [n.owner] else actF l k
    | none => actF l k
theorem actF_yes {l : List RNote} {k : Nat} (hk : k < l.length) (h : actOne l (actF l k) l[k] = true) : actF l (k + 1) = actF l k ++ [l[k].owner] := by
  rw [actF, List.getElem?_eq_getElem hk]
  simp [h]
theorem actF_no {l : List RNote} {k : Nat} (hk : k < l.length) (h : actOne l (actF l k) l[k] = false) : actF l (k + 1) = actF l k := by
  rw [actF, List.getElem?_eq_getElem hk]
  simp [h]
theorem actF_len (l : List RNote) : ∀ k, (actF l k).length ≤ k := by
  intro k
  induction k with
  | zero => simp [actF]
  | succ k ih =>
    unfold actF
    split
    · split
      · simp; omega
      · omega
    · omega
theorem actF_mem (l : List RNote) : ∀ k, k ≤ l.length → ∀ x, x ∈ actF l k ↔ ∃ i, ∃ h : i < l.length, i < k ∧ l[i].fin = false ∧ endB l l[i].owner = false ∧ l[i].owner = x := by
  intro k
  induction k with
  | zero => intro _ x; simp [actF]
  | succ k ih =>
    intro hk x
    have ih := ih (by omega)
    have hkl : k < l.length := by omega
    cases hq : actOne l (actF l k) l[k] with
    | true =>
      rw [actF_yes hkl hq, List.mem_append, ih]
      simp only [actOne, Bool.and_eq_true, Bool.not_eq_true'] at hq
      constructor
      · rintro (⟨i, h, h1, h2⟩ | h)
        · exact ⟨i, h, by omega, h2⟩
        · simp at h; exact ⟨k, hkl, by omega, hq.1.1, hq.1.2, h.symm⟩
      · rintro ⟨i, h, h1, h2, h3, h4⟩
        by_cases hik : i = k
        · subst hik; exact .inr (by simp [h4])
        · exact .inl ⟨i, h, by omega, h2, h3, h4⟩
    | false =>
      rw [actF_no hkl hq, ih]
      constructor
      · rintro ⟨i, h, h1, h2⟩
        exact ⟨i, h, by omega, h2⟩
      · rintro ⟨i, h, h1, h2, h3, h4⟩
        by_cases hik : i = k
        · subst hik
          have : l[i].owner ∈ actF l i := by
            simp only [actOne, h2, h3, Bool.not_false, Bool.and_true, Bool.true_and, Bool.not_eq_false', List.contains_iff_mem] at hq
            exact hq
          rw [h4] at this
          exact (ih x).1 this
        · exact ⟨i, h, by omega, h2, h3, h4⟩
theorem actF_nodup (l : List RNote) : ∀ k, k ≤ l.length → (actF l k).Nodup := by
  intro k
  induction k with
  | zero => intro _; simp [actF]
  | succ k ih =>
    intro hk
    have ih := ih (by omega)
    have hkl : k < l.length := by omega
    cases hq : actOne l (actF l k) l[k] with
    | true =>
      rw [actF_yes hkl hq, List.nodup_append]
      simp only [actOne, Bool.and_eq_true, Bool.not_eq_true', ← Bool.not_eq_true, List.contains_iff_mem] at hq
      refine ⟨ih, by simp, fun a ha b hb e => ?_⟩
      simp at hb
      subst hb; subst e
      exact hq.2 ha
    | false => rw [actF_no hkl hq]; exact ih
theorem openT_mem (l : List RNote) (k : Nat) (x : Int) : x ∈ openT l k ↔ ∃ t : Nat, t < k ∧ endB l (t : Int) = false ∧ hasB l (t : Int) = true ∧ (t : Int) = x := by
  unfold openT
  simp [opB, List.mem_map, List.mem_filter]
  constructor
  · rintro ⟨t, ⟨h1, h2, h3⟩, h4⟩; exact ⟨t, h1, h2, h3, h4⟩
  · rintro ⟨t, h1, h2, h3, h4⟩; exact ⟨t, ⟨h1, h2, h3⟩, h4⟩
theorem openT_lt (l : List RNote) (k : Nat) : (openT l k).Pairwise (fun a b => a < b) := by
  unfold openT
  rw [List.pairwise_map]
  refine List.Pairwise.filter _ ?_
  exact List.Pairwise.imp (fun h => by omega) (List.pairwise_lt_range (n := k))
theorem hasB_iff (l : List RNote) (t : Int) : hasB l t = true ↔ ∃ i, ∃ h : i < l.length, l[i].fin = false ∧ l[i].owner = t := by
  unfold hasB
  rw [List.any_eq_true]
  constructor
  · rintro ⟨n, hn, h1⟩
    obtain ⟨i, hi, rfl⟩ := List.getElem_of_mem hn
    simp [edB] at h1
    exact ⟨i, hi, h1.1, h1.2⟩
  · rintro ⟨i, hi, h1, h2⟩
    exact ⟨l[i], List.getElem_mem hi, by simp [edB, h1, h2]⟩
theorem act_sorted {l : List RNote} {r : List Int} (ho : ∀ i (h : i < l.length), 0 ≤ l[i].owner ∧ l[i].owner ≤ 7) (hp : r.Perm (actF l l.length)) (hs : r.Pairwise (fun a b => a ≤ b)) : r = openT l 8 := by
  have hn : (openT l 8).Nodup := List.Pairwise.imp (fun h => by omega) (openT_lt l 8)
  have hq : r.Perm (openT l 8) := by
    refine hp.trans ((List.perm_ext_iff_of_nodup (actF_nodup l _ (Nat.le_refl _)) hn).2 fun x => ?_)
    rw [actF_mem l _ (Nat.le_refl _), openT_mem]
    constructor
    · rintro ⟨i, hi, -, h1, h2, h3⟩
      obtain ⟨o1, o2⟩ := ho i hi
      obtain ⟨t, ht⟩ : ∃ t : Nat, l[i].owner = (t : Int) := ⟨l[i].owner.toNat, by omega⟩
      refine ⟨t, by omega, by rw [← ht]; exact h2, (hasB_iff l _).2 ⟨i, hi, h1, ht⟩, by rw [← ht]; exact h3⟩
    · rintro ⟨t, h1, h2, h3, h4⟩
      obtain ⟨i, hi, h5, h6⟩ := (hasB_iff l _).1 h3
      exact ⟨i, hi, hi, h5, by rw [h6]; exact h2, h6.trans h4⟩
  exact List.Perm.eq_of_pairwise (fun a b _ _ h1 h2 => Int.le_antisymm h1 h2) hs (List.Pairwise.imp (fun h => by omega) (openT_lt l 8)) hq
theorem own_app {B g n cap : Nat} {w : World} {ns : List Int} {x : Int} (h : w.ownsRow B 3 1 (.slice (some ⟨g, 0, none⟩) n cap) n (ns.map (Value.int .i64) ++ [.int .i64 x])) (hn : n = ns.length + 1) : OwnN B w (.slice (some ⟨g, 0, none⟩) n cap) (ns ++ [x]) := by
  subst hn
  unfold OwnN
  rw [List.length_append, List.map_append]
  exact h
theorem Rows3.keep {B : Nat} {w w' : World} {d f a : Value} {ds fs ac : List Int} (h : Rows3 B w d f a ds fs ac) (hb : Below w.heap.size w w') : Rows3 B w' d f a ds fs ac := ⟨h.1.keep hb, h.2.1.keep hb, h.2.2⟩
theorem rows_at {B H g : Nat} {w : World} {d f : Value} {ns : List Int} (hat : d.ownBlock = some g ∨ g = H) (hne : ∀ b, d.ownBlock = some b → f.ownBlock ≠ some b) (hf : OwnN B w f ns) (hH : w.heap.size ≤ H) : f.ownBlock ≠ some g := by
  rcases hat with h | rfl
  · exact hne g h
  · intro e; have := (World.ownsRow.lt hf _ e).2; omega
theorem Rows3.push1 {B H g n cap : Nat} {w w' : World} {d f a : Value} {ds fs ac ds' : List Int} (h : Rows3 B w d f a ds fs ac) (ho : OwnN B w' (.slice (some ⟨g, 0, none⟩) n cap) ds') (hg : w.grownBy w' d.ownBlock) (hat : d.ownBlock = some g ∨ g = H) (hH : w.heap.size ≤ H) : Rows3 B w' (.slice (some ⟨g, 0, none⟩) n cap) f a ds' fs ac := by
  obtain ⟨⟨h1, h2, h3⟩, h4, h5⟩ := h
  have n1 : ∀ b, d.ownBlock = some b → a.ownBlock ≠ some b := fun b hb e => (h5 b e).1 hb
  have q1 := rows_at hat h3 h2 hH
  have q2 := rows_at hat n1 h4 hH
  refine ⟨⟨ho, own_kept h2 hg h3, fun b hb e => q1 (by simp [Value.ownBlock] at hb; rw [e, hb])⟩, own_kept h4 hg n1, fun b hb => ⟨fun e => q2 (by simp [Value.ownBlock] at e; rw [hb, e]), (h5 b hb).2⟩⟩
theorem Rows3.push2 {B H g n cap : Nat} {w w' : World} {d f a : Value} {ds fs ac fs' : List Int} (h : Rows3 B w d f a ds fs ac) (ho : OwnN B w' (.slice (some ⟨g, 0, none⟩) n cap) fs') (hg : w.grownBy w' f.ownBlock) (hat : f.ownBlock = some g ∨ g = H) (hH : w.heap.size ≤ H) : Rows3 B w' d (.slice (some ⟨g, 0, none⟩) n cap) a ds fs' ac := by
  obtain ⟨⟨h1, h2, h3⟩, h4, h5⟩ := h
  have n0 : ∀ b, f.ownBlock = some b → d.ownBlock ≠ some b := fun b hb e => h3 b e hb
  have n1 : ∀ b, f.ownBlock = some b → a.ownBlock ≠ some b := fun b hb e => (h5 b e).2 hb
  have q1 := rows_at hat n0 h1 hH
  have q2 := rows_at hat n1 h4 hH
  refine ⟨⟨own_kept h1 hg n0, ho, fun b hb e => q1 (by simp [Value.ownBlock] at e; rw [hb, e])⟩, own_kept h4 hg n1, fun b hb => ⟨(h5 b hb).1, fun e => q2 (by simp [Value.ownBlock] at e; rw [hb, e])⟩⟩
theorem Rows3.push3 {B H g n cap : Nat} {w w' : World} {d f a : Value} {ds fs ac ac' : List Int} (h : Rows3 B w d f a ds fs ac) (ho : OwnN B w' (.slice (some ⟨g, 0, none⟩) n cap) ac') (hg : w.grownBy w' a.ownBlock) (hat : a.ownBlock = some g ∨ g = H) (hH : w.heap.size ≤ H) : Rows3 B w' d f (.slice (some ⟨g, 0, none⟩) n cap) ds fs ac' := by
  obtain ⟨⟨h1, h2, h3⟩, h4, h5⟩ := h
  have n0 : ∀ b, a.ownBlock = some b → d.ownBlock ≠ some b := fun b hb => (h5 b hb).1
  have n1 : ∀ b, a.ownBlock = some b → f.ownBlock ≠ some b := fun b hb => (h5 b hb).2
  have q1 := rows_at hat n0 h1 hH
  have q2 := rows_at hat n1 h2 hH
  refine ⟨⟨own_kept h1 hg n0, own_kept h2 hg n1, h3⟩, ho, fun b hb => ?_⟩
  simp [Value.ownBlock] at hb
  subst hb
  exact ⟨q1, q2⟩
theorem Rows3.lt {B : Nat} {w : World} {d f a : Value} {ds fs ac : List Int} (h : Rows3 B w d f a ds fs ac) : (∀ b, d.ownBlock = some b → B ≤ b) ∧ (∀ b, f.ownBlock = some b → B ≤ b) ∧ (∀ b, a.ownBlock = some b → B ≤ b) :=
  ⟨fun b hb => (World.ownsRow.lt h.1.1 b hb).1, fun b hb => (World.ownsRow.lt h.1.2.1 b hb).1, fun b hb => (World.ownsRow.lt h.2.1 b hb).1⟩
end Go.Proofs.Ytnicjpfkiblimaa
