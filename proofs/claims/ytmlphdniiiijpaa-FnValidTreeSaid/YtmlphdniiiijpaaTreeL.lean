/-
  Trees as lists of leaves: what TreeInsert, TreeDelete and TreeLoad come to. No program stands here.
-/
import Derived.Test.YtmlphdniiiijpaaOnl
set_option linter.all false
namespace Go.Proofs.Ytmlphdniiiijpaa
def flatT (t : List (List Itm)) : List Itm := t.flatten
def lowT (t : List (List Itm)) : Nat := if t.length = 1 then 1 else 2
/-- a valid tree -/
structure VT (t : List (List Itm)) : Prop where
  len : ∀ f ∈ t, lowT t ≤ f.length ∧ f.length ≤ 4
  n : (flatT t).length ≤ 30
  ord : ordI (flatT t)
theorem ordI_srtT {l : List Itm} (h : ordI l) : SrtI l := by
  have step : ∀ i (hi : i + 1 < l.length), lessP (l[i]'(by omega)) l[i + 1] := fun i hi => by
    have := (h (i + 1) hi).2 (by omega)
    simp only [Nat.add_sub_cancel] at this
    exact this
  unfold SrtI
  rw [List.pairwise_iff_getElem]
  intro i j hi hj hij
  obtain ⟨d, rfl⟩ : ∃ d, j = i + 1 + d := ⟨j - i - 1, by omega⟩
  clear hij
  induction d with
  | zero => exact step i hj
  | succ d ih => exact lessP_trans (ih (by omega)) (step (i + 1 + d) hj)
theorem srt_ordIT {l : List Itm} (h : SrtI l) (ho : ∀ x ∈ l, okI x = true) : ordI l := fun i hi => ⟨ho _ (List.getElem_mem hi), fun h0 => List.pairwise_iff_getElem.1 h (i - 1) i (by omega) hi (by omega)⟩
theorem ordI_okT {l : List Itm} (h : ordI l) : ∀ x ∈ l, okI x = true := fun x hx => by
  obtain ⟨i, hi, rfl⟩ := List.getElem_of_mem hx
  exact (h i hi).1
theorem lowT_pos (t : List (List Itm)) : 1 ≤ lowT t := by unfold lowT; split <;> omega
theorem flatT_len {t : List (List Itm)} (h : ∀ f ∈ t, 1 ≤ f.length) : t.length ≤ (flatT t).length := by
  unfold flatT
  induction t with
  | nil => simp
  | cons f t ih =>
    have h1 := h f (List.mem_cons_self ..)
    have h2 := ih (fun g hg => h g (List.mem_cons_of_mem _ hg))
    rw [List.flatten_cons, List.length_append, List.length_cons]; omega
theorem VT.leaves {t : List (List Itm)} (h : VT t) : t.length ≤ 30 := Nat.le_trans (flatT_len (fun f hf => Nat.le_trans (lowT_pos t) (h.len f hf).1)) h.n
/-- does leaf k begin at or before x? -/
def headLE (t : List (List Itm)) (x : Itm) (k : Nat) : Bool := match t[k]? with
  | some (y :: _) => !lessI x y
  | _ => false
/-- the leaf of an item, when the leaves up to k have been seen -/
def leafAt (t : List (List Itm)) (x : Itm) : Nat → Nat
  | 0 => 0
  | k + 1 => if headLE t x k then k else leafAt t x k
theorem leafAt_le (t : List (List Itm)) (x : Itm) : ∀ k, leafAt t x k ≤ k - 1
  | 0 => Nat.le_refl _
  | k + 1 => by
    unfold leafAt
    split
    · omega
    · have := leafAt_le t x k; omega
theorem leafAt_lt {t : List (List Itm)} (x : Itm) (h : 0 < t.length) : leafAt t x t.length < t.length := by
  have := leafAt_le t x t.length; omega
theorem leafAt_spec (t : List (List Itm)) (x : Itm) : ∀ n, (∀ k, leafAt t x n < k → k < n → headLE t x k = false) ∧ (leafAt t x n = 0 ∨ headLE t x (leafAt t x n) = true) := by
  intro n
  induction n with
  | zero => exact ⟨fun k _ h => by omega, .inl rfl⟩
  | succ n ih =>
    unfold leafAt
    split
    · rename_i h
      exact ⟨fun k h1 h2 => by omega, .inr h⟩
    · rename_i h
      refine ⟨fun k h1 h2 => ?_, ih.2⟩
      rcases Nat.lt_or_ge k n with q | q
      · exact ih.1 k h1 q
      · obtain rfl : k = n := by omega
        simpa using h
/-- a list between two others -/
theorem putL_mid {A L C : List Itm} {x : Itm} (hA : ∀ a ∈ A, lessP a x) (hC : ∀ c ∈ C, lessP x c) : putL (A ++ L ++ C) x = A ++ putL L x ++ C := by
  have fA1 : A.filter (fun y => lessI y x) = A := List.filter_eq_self.2 hA
  have fA2 : A.filter (fun y => lessI x y) = [] := List.filter_eq_nil_iff.2 fun a ha => lessP_asym (hA a ha)
  have fC1 : C.filter (fun y => lessI y x) = [] := List.filter_eq_nil_iff.2 fun a ha => lessP_asym (hC a ha)
  have fC2 : C.filter (fun y => lessI x y) = C := List.filter_eq_self.2 hC
  unfold putL
  rw [List.filter_append, List.filter_append, List.filter_append, List.filter_append, fA1, fA2, fC1, fC2]
  simp
theorem delL_mid {A L C : List Itm} {x : Itm} (hA : ∀ a ∈ A, lessP a x) (hC : ∀ c ∈ C, lessP x c) : delL (A ++ L ++ C) x = A ++ delL L x ++ C := by
  have fA : delL A x = A := List.filter_eq_self.2 fun a ha => neI.2 (fun e => by subst e; exact lessP_irrefl _ (hA _ ha))
  have fC : delL C x = C := List.filter_eq_self.2 fun a ha => neI.2 (fun e => by subst e; exact lessP_irrefl _ (hC _ ha))
  unfold delL at *
  rw [List.filter_append, List.filter_append, fA, fC]
theorem mem_mid {A L C : List Itm} {x : Itm} (hA : ∀ a ∈ A, lessP a x) (hC : ∀ c ∈ C, lessP x c) : x ∈ A ++ L ++ C ↔ x ∈ L := by
  simp only [List.mem_append]
  constructor
  · rintro ((h | h) | h)
    · exact absurd (hA x h) (lessP_irrefl x)
    · exact h
    · exact absurd (hC x h) (lessP_irrefl x)
  · exact fun h => .inl (.inr h)
theorem flatT_split {t : List (List Itm)} {p : Nat} (h : p < t.length) : flatT t = flatT (t.take p) ++ t[p] ++ flatT (t.drop (p + 1)) := by
  unfold flatT
  conv => lhs; rw [← List.take_append_drop p t, List.drop_eq_getElem_cons h]
  rw [List.flatten_append, List.flatten_cons, List.append_assoc]
/-- around the leaf of an item lie only smaller ones ahead and greater ones behind -/
theorem leaf_mid {t : List (List Itm)} (h : SrtI (flatT t)) (hne : ∀ f ∈ t, 1 ≤ f.length) (x : Itm) (h0 : 0 < t.length) :
    (∀ a ∈ flatT (t.take (leafAt t x t.length)), lessP a x) ∧ (∀ c ∈ flatT (t.drop (leafAt t x t.length + 1)), lessP x c) := by
  have hp := leafAt_lt x h0
  obtain ⟨h1, h2⟩ := leafAt_spec t x t.length
  generalize leafAt t x t.length = p at *
  have hs := h
  rw [flatT_split hp] at hs
  unfold SrtI at hs
  rw [List.pairwise_append, List.pairwise_append] at hs
  obtain ⟨⟨sA, sL, hAL⟩, sC, hALC⟩ := hs
  constructor
  · intro a ha
    rcases h2 with rfl | h2
    · simp [flatT] at ha
    · have hL : 1 ≤ t[p].length := hne _ (List.getElem_mem hp)
      obtain ⟨y, ys, hy⟩ : ∃ y ys, t[p] = y :: ys := by
        cases hq : t[p] with
        | nil => rw [hq] at hL; simp at hL
        | cons y ys => exact ⟨y, ys, rfl⟩
      have hh : lessI x y = false := by
        unfold headLE at h2
        rw [List.getElem?_eq_getElem hp, hy] at h2
        simpa using h2
      have hay := hAL a ha y (by rw [hy]; exact List.mem_cons_self ..)
      by_cases c : lessP a x
      · exact c
      · by_cases c2 : lessP x a
        · have := lessP_trans c2 hay
          unfold lessP at this; rw [hh] at this; cases this
        · have := lessP_total c c2
          rw [this] at hay
          unfold lessP at hay; rw [hh] at hay; cases hay
  · intro c hc
    unfold flatT at hc
    obtain ⟨f, hf, hcf⟩ := List.mem_flatten.1 hc
    obtain ⟨i, hi, rfl⟩ := List.getElem_of_mem hf
    rw [List.length_drop] at hi
    rw [List.getElem_drop] at hcf
    have hk : p + 1 + i < t.length := by omega
    have hL : 1 ≤ t[p + 1 + i].length := hne _ (List.getElem_mem hk)
    obtain ⟨y, ys, hy⟩ : ∃ y ys, t[p + 1 + i] = y :: ys := by
      cases hq : t[p + 1 + i] with
      | nil => rw [hq] at hL; simp at hL
      | cons y ys => exact ⟨y, ys, rfl⟩
    have hh := h1 (p + 1 + i) (by omega) hk
    unfold headLE at hh
    rw [List.getElem?_eq_getElem hk, hy] at hh
    have hxy : lessP x y := by
      unfold lessP; simpa using hh
    rw [hy] at hcf
    rcases List.mem_cons.1 hcf with rfl | hcf
    · exact hxy
    · have hs2 := h
      rw [flatT_split hk] at hs2
      unfold SrtI at hs2
      rw [List.pairwise_append, List.pairwise_append] at hs2
      have := hs2.1.2.1
      rw [hy] at this
      exact lessP_trans hxy ((List.pairwise_cons.1 this).1 c hcf)
/-- the leaves of the items of one leaf -/
def divL (f : List Itm) : List (List Itm) := if f.length = 0 then [] else if f.length ≤ 4 then [f] else [f.take (f.length / 2), f.drop (f.length / 2)]
theorem divL_flat (f : List Itm) : (divL f).flatten = f := by
  unfold divL
  split
  · rename_i h; rw [List.length_eq_zero_iff.1 h]; rfl
  · split
    · simp
    · simp
/-- a tree with leaves in place of many from an index on -/
def withT (t : List (List Itm)) (p q : Nat) (f : List Itm) : List (List Itm) := t.take p ++ divL f ++ t.drop (p + q)
theorem flatT_with (t : List (List Itm)) (p q : Nat) (f : List Itm) : flatT (withT t p q f) = flatT (t.take p) ++ f ++ flatT (t.drop (p + q)) := by
  unfold withT flatT
  rw [List.flatten_append, List.flatten_append, divL_flat]
def insT (t : List (List Itm)) (x : Itm) : List (List Itm) := if h : 0 < t.length then withT t (leafAt t x t.length) 1 (putL (t[leafAt t x t.length]'(leafAt_lt x h)) x) else [[x]]
theorem flatT_ins {t : List (List Itm)} (h : SrtI (flatT t)) (hne : ∀ f ∈ t, 1 ≤ f.length) (x : Itm) : flatT (insT t x) = putL (flatT t) x := by
  unfold insT
  split
  · rename_i h0
    have hp := leafAt_lt x h0
    obtain ⟨hA, hC⟩ := leaf_mid h hne x h0
    rw [flatT_with]
    conv => rhs; rw [flatT_split hp]
    rw [putL_mid hA hC]
  · rename_i h0
    have : t = [] := List.length_eq_zero_iff.1 (by omega)
    subst this
    simp [flatT, putL]
theorem has_leaf {t : List (List Itm)} (h : SrtI (flatT t)) (hne : ∀ f ∈ t, 1 ≤ f.length) (x : Itm) (h0 : 0 < t.length) : x ∈ flatT t ↔ x ∈ t[leafAt t x t.length]'(leafAt_lt x h0) := by
  obtain ⟨hA, hC⟩ := leaf_mid h hne x h0
  rw [flatT_split (leafAt_lt x h0)]
  exact mem_mid hA hC
/-- TreeLoad: n items are divided into leaves -/
def loadN (n : Nat) : Nat := (n + 3) / 4
def loadSz (n i : Nat) : Nat := n / loadN n + (if i < n % loadN n then 1 else 0)
theorem loadSz_ok : ∀ n, n < 31 → ∀ i, i < loadN n → (if loadN n = 1 then 1 else 2) ≤ loadSz n i ∧ loadSz n i ≤ 4 := by decide
def loadFrom (n : Nat) : Nat → Nat
  | 0 => 0
  | i + 1 => loadFrom n i + loadSz n i
theorem loadFrom_end : ∀ n, n < 31 → loadFrom n (loadN n) = n := by decide
def loadT (l : List Itm) : List (List Itm) := (List.range (loadN l.length)).map fun i => (l.drop (loadFrom l.length i)).take (loadSz l.length i)
theorem loadT_flatK (l : List Itm) : ∀ k, ((List.range k).map fun i => (l.drop (loadFrom l.length i)).take (loadSz l.length i)).flatten = l.take (loadFrom l.length k) := by
  intro k
  induction k with
  | zero => simp [loadFrom]
  | succ k ih =>
    rw [List.range_succ, List.map_append, List.flatten_append, ih]
    simp only [List.map_cons, List.map_nil, List.flatten_cons, List.flatten_nil, List.append_nil]
    show _ = l.take (loadFrom l.length k + loadSz l.length k)
    rw [List.take_add]
theorem flatT_load {l : List Itm} (h : l.length ≤ 30) : flatT (loadT l) = l := by
  unfold flatT loadT
  rw [loadT_flatK, loadFrom_end _ (by omega), List.take_length]
end Go.Proofs.Ytmlphdniiiijpaa
