/-
  Rows, items and moves as lists: what RowsAfter, SideOf, DrainSide, BuildOnline come to. No program stands here.
-/
import Derived.Test.YtmlphdniiiijpaaItemOrd
import Derived.Test.YtmlphdniiiijpaaKMove
set_option linter.all false
namespace Go.Proofs.Ytmlphdniiiijpaa
def nextr (a b : Itm) : Prop := a.r < b.r
def lessP (a b : Itm) : Prop := lessI a b = true
theorem lessP_trans {a b c : Itm} (h : lessP a b) (h' : lessP b c) : lessP a c := by
  simp only [lessP, lessI, decide_eq_true_eq] at *; omega
theorem lessP_irrefl (a : Itm) : ¬ lessP a a := by simp [lessP, lessI]
theorem lessP_total {a b : Itm} (h : ¬ lessP a b) (h' : ¬ lessP b a) : a = b := by
  simp only [lessP, lessI, decide_eq_true_eq] at *
  obtain ⟨a1, a2⟩ := a
  obtain ⟨b1, b2⟩ := b
  simp at h h' ⊢; omega
theorem lessP_asym {a b : Itm} (h : lessP a b) : ¬ lessP b a := by
  simp only [lessP, lessI, decide_eq_true_eq] at *; omega
/-- sorted without doubles -/
def SrtI (l : List Itm) : Prop := l.Pairwise lessP
theorem srt_nodup {l : List Itm} (h : SrtI l) : l.Nodup := List.Pairwise.imp (fun {a b} hab e => by subst e; exact lessP_irrefl _ hab) h
/-- two sorted lists with the same members are one -/
theorem srt_ext {l m : List Itm} (hl : SrtI l) (hm : SrtI m) (h : ∀ x, x ∈ l ↔ x ∈ m) : l = m := by
  have hp : l.Perm m := (List.perm_ext_iff_of_nodup (srt_nodup hl) (srt_nodup hm)).2 h
  exact hp.eq_of_pairwise (fun a b _ _ h1 h2 => absurd h2 (lessP_asym h1)) hl hm
theorem mem_putL {l : List Itm} {x y : Itm} : y ∈ putL l x ↔ y = x ∨ y ∈ l ∧ y ≠ x := by
  unfold putL
  simp only [List.mem_append, List.mem_filter, List.mem_singleton]
  constructor
  · rintro ((⟨h1, h2⟩ | h) | ⟨h1, h2⟩)
    · exact .inr ⟨h1, fun e => by subst e; exact lessP_irrefl _ h2⟩
    · exact .inl h
    · exact .inr ⟨h1, fun e => by subst e; exact lessP_irrefl _ h2⟩
  · rintro (h | ⟨h1, h2⟩)
    · exact .inl (.inr h)
    · by_cases c : lessI y x = true
      · exact .inl (.inl ⟨h1, c⟩)
      · by_cases c' : lessI x y = true
        · exact .inr ⟨h1, c'⟩
        · exact absurd (lessP_total c c') h2
theorem mem_putL' {l : List Itm} {x y : Itm} : y ∈ putL l x ↔ y = x ∨ y ∈ l := by
  rw [mem_putL]
  by_cases h : y = x <;> simp [h]
theorem srt_putL {l : List Itm} (h : SrtI l) (x : Itm) : SrtI (putL l x) := by
  unfold SrtI putL
  rw [List.pairwise_append, List.pairwise_append]
  refine ⟨⟨List.Pairwise.filter _ h, List.pairwise_singleton _ _, ?_⟩, List.Pairwise.filter _ h, ?_⟩
  · intro a ha b hb
    simp at hb; subst hb
    exact (List.mem_filter.1 ha).2
  · intro a ha b hb
    have hb' := (List.mem_filter.1 hb).2
    rcases List.mem_append.1 ha with ha | ha
    · exact lessP_trans (List.mem_filter.1 ha).2 hb'
    · simp at ha; subst ha; exact hb'
theorem ordL_snoc (l : List Itm) (x : Itm) : ordL (l ++ [x]) = putL (ordL l) x := by simp [ordL, List.foldl_append]
theorem ordL_spec (l : List Itm) : SrtI (ordL l) ∧ ∀ x, x ∈ ordL l ↔ x ∈ l := by
  suffices h : ∀ (l a : List Itm), SrtI a → SrtI (l.foldl putL a) ∧ ∀ x, x ∈ l.foldl putL a ↔ x ∈ l ∨ x ∈ a by
    have := h l [] List.Pairwise.nil
    exact ⟨this.1, fun x => (this.2 x).trans (by simp)⟩
  intro l
  induction l with
  | nil => intro a ha; exact ⟨ha, fun x => by simp⟩
  | cons y l ih =>
    intro a ha
    obtain ⟨h1, h2⟩ := ih (putL a y) (srt_putL ha y)
    refine ⟨h1, fun x => ?_⟩
    rw [List.foldl_cons, h2, mem_putL', List.mem_cons]
    constructor
    · rintro (h | h | h) <;> simp [h]
    · rintro ((h | h) | h) <;> simp [h]
theorem ordL_len_eq {l : List Itm} (h : l.Nodup) : (ordL l).length = l.length :=
  ((List.perm_ext_iff_of_nodup (srt_nodup (ordL_spec l).1) h).2 (ordL_spec l).2).length_eq
/-- rows that ascend -/
def AscR (l : List Itm) : Prop := l.Pairwise nextr
theorem asc_nodup {l : List Itm} (h : AscR l) : l.Nodup := List.Pairwise.imp (fun {a b} hab e => by subst e; unfold nextr at hab; omega) h
def vRows (l : List Itm) : Prop := l.length ≤ 30 ∧ (∀ x ∈ l, okI x = true) ∧ AscR l
def vMove (m : RMove) : Prop := (0 ≤ m.row ∧ m.row ≤ 99) ∧ (0 ≤ m.key ∧ m.key ≤ 999999)
def mvItm (m : RMove) : Itm := ⟨m.key, m.row⟩
def ltR (n : Int) (e : Itm) : Bool := decide (e.r < n)
def gtR (n : Int) (e : Itm) : Bool := decide (n < e.r)
def setRowL (l : List Itm) (m : RMove) : List Itm := l.filter (ltR m.row) ++ (if m.gone then [] else [mvItm m]) ++ l.filter (gtR m.row)
def stepR (l : List Itm) (m : RMove) : List Itm := if m.scan then l else setRowL l m
def rowsAt (l : List Itm) (ms : List RMove) (k : Nat) : List Itm := (ms.take k).foldl stepR l
theorem rowsAt_0 (l : List Itm) (ms : List RMove) : rowsAt l ms 0 = l := rfl
theorem rowsAt_s {l : List Itm} {ms : List RMove} {k : Nat} (h : k < ms.length) : rowsAt l ms (k + 1) = stepR (rowsAt l ms k) ms[k] := by
  unfold rowsAt; rw [List.take_succ_eq_append_getElem h, List.foldl_append]; rfl
def vMoves (l : List Itm) (ms : List RMove) : Prop := (vRows l ∧ ms.length ≤ 16) ∧ ∀ k (h : k < ms.length), (ms[k].scan = false → vMove ms[k]) ∧ (rowsAt l ms (k + 1)).length ≤ 30
theorem mem_setRowL {l : List Itm} {m : RMove} {x : Itm} : x ∈ setRowL l m ↔ (x ∈ l ∧ x.r ≠ m.row) ∨ (m.gone = false ∧ x = mvItm m) := by
  unfold setRowL
  simp only [List.mem_append, List.mem_filter, ltR, gtR, decide_eq_true_eq]
  have key : ∀ p : Prop, ((x ∈ l ∧ x.r < m.row) ∨ p) ∨ (x ∈ l ∧ m.row < x.r) ↔ (x ∈ l ∧ x.r ≠ m.row) ∨ p := by
    intro p
    constructor
    · rintro ((⟨h1, h2⟩ | h) | ⟨h1, h2⟩)
      · exact .inl ⟨h1, by omega⟩
      · exact .inr h
      · exact .inl ⟨h1, by omega⟩
    · rintro (⟨h1, h2⟩ | h)
      · by_cases c : x.r < m.row
        · exact .inl (.inl ⟨h1, c⟩)
        · exact .inr ⟨h1, by omega⟩
      · exact .inl (.inr h)
  rw [key]
  cases m.gone <;> simp
theorem asc_setRowL {l : List Itm} (h : AscR l) (m : RMove) : AscR (setRowL l m) := by
  unfold AscR setRowL
  rw [List.pairwise_append, List.pairwise_append]
  refine ⟨⟨List.Pairwise.filter _ h, by split <;> simp, ?_⟩, List.Pairwise.filter _ h, ?_⟩
  · intro a ha b hb
    have := (List.mem_filter.1 ha).2
    simp only [ltR, decide_eq_true_eq] at this
    split at hb
    · simp at hb
    · simp at hb; subst hb; exact this
  · intro a ha b hb
    have hb' := (List.mem_filter.1 hb).2
    simp only [gtR, decide_eq_true_eq] at hb'
    rcases List.mem_append.1 ha with ha | ha
    · have := (List.mem_filter.1 ha).2
      simp only [ltR, decide_eq_true_eq] at this
      unfold nextr; omega
    · split at ha
      · simp at ha
      · simp at ha; subst ha; exact hb'
theorem asc_stepR {l : List Itm} (h : AscR l) (m : RMove) : AscR (stepR l m) := by
  unfold stepR; split
  · exact h
  · exact asc_setRowL h m
theorem asc_rowsAt {l : List Itm} (h : AscR l) (ms : List RMove) (k : Nat) (hk : k ≤ ms.length) : AscR (rowsAt l ms k) := by
  induction k with
  | zero => exact h
  | succ k ih => rw [rowsAt_s hk]; exact asc_stepR (ih (by omega)) _
theorem ok_setRowL {l : List Itm} {m : RMove} (h : ∀ x ∈ l, okI x = true) (hm : vMove m) : ∀ x ∈ setRowL l m, okI x = true := by
  intro x hx
  rcases mem_setRowL.1 hx with h1 | ⟨_, rfl⟩
  · exact h x h1.1
  · obtain ⟨⟨a1, a2⟩, a3, a4⟩ := hm
    unfold okI mvItm
    exact decide_eq_true ⟨⟨a3, a4⟩, a1, a2⟩
theorem ok_rowsAt {l : List Itm} {ms : List RMove} (h : ∀ x ∈ l, okI x = true) (hm : ∀ k (h : k < ms.length), ms[k].scan = false → vMove ms[k]) (k : Nat) (hk : k ≤ ms.length) : ∀ x ∈ rowsAt l ms k, okI x = true := by
  induction k with
  | zero => exact h
  | succ k ih =>
    rw [rowsAt_s hk]
    unfold stepR
    split
    · exact ih (by omega)
    · rename_i hs
      exact ok_setRowL (ih (by omega)) (hm k hk (by simpa using hs))
/-- the filters of rows that ascend are its parts -/
theorem asc_lt {l : List Itm} (h : AscR l) (n : Int) {k : Nat} (hk : k ≤ l.length) (h1 : ∀ i (hi : i < l.length), i < k → l[i].r < n) (h2 : ∀ i (hi : i < l.length), k ≤ i → n ≤ l[i].r) :
    l.filter (ltR n) = l.take k ∧ l.filter (fun e => !ltR n e) = l.drop k := by
  have e : l = l.take k ++ l.drop k := (List.take_append_drop k l).symm
  have q1 : (l.take k).filter (ltR n) = l.take k := List.filter_eq_self.2 fun x hx => by
    obtain ⟨i, hi, rfl⟩ := List.getElem_of_mem hx
    rw [List.length_take] at hi
    rw [List.getElem_take]; simp only [ltR, decide_eq_true_eq]; exact h1 i (by omega) (by omega)
  have q2 : (l.drop k).filter (ltR n) = [] := List.filter_eq_nil_iff.2 fun x hx => by
    obtain ⟨i, hi, rfl⟩ := List.getElem_of_mem hx
    rw [List.length_drop] at hi
    rw [List.getElem_drop]; simp only [ltR, decide_eq_true_eq]; have := h2 (k + i) (by omega) (by omega); omega
  constructor
  · conv => lhs; rw [e]
    rw [List.filter_append, q1, q2, List.append_nil]
  · conv => lhs; rw [e]
    rw [List.filter_append]
    have p1 : (l.take k).filter (fun e => !ltR n e) = [] := List.filter_eq_nil_iff.2 fun x hx => by
      have := List.filter_eq_self.1 q1 x hx; simp [this]
    have p2 : (l.drop k).filter (fun e => !ltR n e) = l.drop k := List.filter_eq_self.2 fun x hx => by
      have := List.filter_eq_nil_iff.1 q2 x hx; simpa using this
    rw [p1, p2, List.nil_append]
theorem asc_gt_yes {l : List Itm} (h : AscR l) (n : Int) {k : Nat} (hk : k < l.length) (h1 : ∀ i (hi : i < l.length), i < k → l[i].r < n) (h2 : l[k].r = n) : l.filter (gtR n) = l.drop (k + 1) := by
  have e : l = l.take (k + 1) ++ l.drop (k + 1) := (List.take_append_drop _ l).symm
  conv => lhs; rw [e]
  rw [List.filter_append, List.filter_eq_nil_iff.2, List.nil_append, List.filter_eq_self.2]
  · intro x hx
    obtain ⟨i, hi, rfl⟩ := List.getElem_of_mem hx
    rw [List.length_drop] at hi
    rw [List.getElem_drop]
    simp only [gtR, decide_eq_true_eq]
    have := List.pairwise_iff_getElem.1 h k (k + 1 + i) hk (by omega) (by omega)
    unfold nextr at this; omega
  · intro x hx
    obtain ⟨i, hi, rfl⟩ := List.getElem_of_mem hx
    rw [List.length_take] at hi
    rw [List.getElem_take]
    simp only [gtR, decide_eq_true_eq]
    by_cases c : i = k
    · subst c; omega
    · have := h1 i (by omega) (by omega); omega
theorem asc_gt_no {l : List Itm} (h : AscR l) (n : Int) {k : Nat} (hk : k ≤ l.length) (h1 : ∀ i (hi : i < l.length), i < k → l[i].r < n) (h2 : ∀ i (hi : i < l.length), k ≤ i → n < l[i].r) : l.filter (gtR n) = l.drop k := by
  rw [← (asc_lt h n hk h1 (fun i hi hk => by have := h2 i hi hk; omega)).2]
  refine List.filter_congr fun x hx => ?_
  obtain ⟨i, hi, rfl⟩ := List.getElem_of_mem hx
  by_cases c : i < k
  · have := h1 i hi c
    unfold gtR ltR
    rw [decide_eq_false (by omega), decide_eq_true (by omega)]; rfl
  · have := h2 i hi (by omega)
    unfold gtR ltR
    rw [decide_eq_true (by omega), decide_eq_false (by omega)]; rfl
/-- where a number lies in rows that ascend -/
def posR (l : List Itm) (n : Int) : Nat := (l.filter (ltR n)).length
def hasR (l : List Itm) (n : Int) : Bool := l.any (fun e => e.r == n)
theorem posR_le (l : List Itm) (n : Int) : posR l n ≤ l.length := List.length_filter_le _ _
theorem posR_of {l : List Itm} (h : AscR l) (n : Int) {k : Nat} (hk : k ≤ l.length) (h1 : ∀ i (hi : i < l.length), i < k → l[i].r < n) (h2 : ∀ i (hi : i < l.length), k ≤ i → n ≤ l[i].r) : posR l n = k := by
  unfold posR; rw [(asc_lt h n hk h1 h2).1, List.length_take]; omega
theorem hasR_of {l : List Itm} (h : AscR l) (n : Int) {k : Nat} (hk : k ≤ l.length) (h1 : ∀ i (hi : i < l.length), i < k → l[i].r < n) (h2 : ∀ i (hi : i < l.length), k ≤ i → n ≤ l[i].r) : hasR l n = true ↔ ∃ hk : k < l.length, l[k].r = n := by
  unfold hasR
  rw [List.any_eq_true]
  constructor
  · rintro ⟨x, hx, he⟩
    obtain ⟨i, hi, rfl⟩ := List.getElem_of_mem hx
    simp only [beq_iff_eq] at he
    by_cases c : i < k
    · have := h1 i hi c; omega
    · have hk' : k < l.length := by omega
      refine ⟨hk', ?_⟩
      by_cases c2 : i = k
      · subst c2; exact he
      · have h3 := List.pairwise_iff_getElem.1 h k i hk' hi (by omega)
        have h4 := h2 k hk' (Nat.le_refl _)
        unfold nextr at h3; omega
  · rintro ⟨hk', he⟩
    exact ⟨l[k], List.getElem_mem hk', by simpa using he⟩
/-- what the parts are, by posR -/
theorem posR_parts {l : List Itm} (h : AscR l) (n : Int) : (∀ i (hi : i < l.length), i < posR l n → l[i].r < n) ∧ (∀ i (hi : i < l.length), posR l n ≤ i → n ≤ l[i].r) := by
  have key : ∃ k, k ≤ l.length ∧ (∀ i (hi : i < l.length), i < k → l[i].r < n) ∧ (∀ i (hi : i < l.length), k ≤ i → n ≤ l[i].r) := by
    induction l with
    | nil => exact ⟨0, by simp, fun i hi => by simp at hi, fun i hi => by simp at hi⟩
    | cons x l ih =>
      obtain ⟨hx, hl⟩ := List.pairwise_cons.1 h
      by_cases c : x.r < n
      · obtain ⟨k, hk, h1, h2⟩ := ih hl
        refine ⟨k + 1, by simp; omega, fun i hi hk => ?_, fun i hi hk => ?_⟩
        · cases i with
          | zero => exact c
          | succ i => exact h1 i (by simpa using hi) (by omega)
        · cases i with
          | zero => omega
          | succ i => exact h2 i (by simpa using hi) (by omega)
      · refine ⟨0, by simp, fun i hi hk => by omega, fun i hi hk => ?_⟩
        cases i with
        | zero => simp; omega
        | succ i =>
          have := hx (l[i]'(by simpa using hi)) (List.getElem_mem _)
          unfold nextr at this
          simp; omega
  obtain ⟨k, hk, h1, h2⟩ := key
  rw [posR_of h n hk h1 h2]
  exact ⟨h1, h2⟩
/-- taking the row away, and putting one there, at its place, is setRowL -/
theorem setRowL_parts {l : List Itm} (h : AscR l) (m : RMove) :
    setRowL l m = l.take (posR l m.row) ++ (if m.gone then [] else [mvItm m]) ++ l.drop (posR l m.row + (if hasR l m.row then 1 else 0)) := by
  obtain ⟨h1, h2⟩ := posR_parts h m.row
  have hk := posR_le l m.row
  have hh := hasR_of h m.row hk h1 h2
  unfold setRowL
  rw [(asc_lt h m.row hk h1 h2).1]
  congr 1
  cases hq : hasR l m.row with
  | true =>
    obtain ⟨hk', he⟩ := hh.1 hq
    simp only [if_true]
    exact asc_gt_yes h m.row hk' h1 he
  | false =>
    simp only [Bool.false_eq_true, if_false, Nat.add_zero]
    refine asc_gt_no h m.row hk h1 fun i hi hki => ?_
    by_cases c : i = posR l m.row
    · subst c
      have h3 := h2 _ hi (Nat.le_refl _)
      have h4 : ¬ (l[posR l m.row].r = m.row) := fun e => by rw [hh.2 ⟨hi, e⟩] at hq; cases hq
      omega
    · have h3 := List.pairwise_iff_getElem.1 h (posR l m.row) i (by omega) hi (by omega)
      have h4 := h2 _ (show posR l m.row < l.length by omega) (Nat.le_refl _)
      unfold nextr at h3; omega
/-- the items by place: what a search for an item finds in a sorted list -/
def posI (l : List Itm) (x : Itm) : Nat := (l.filter (fun y => lessI y x)).length
def hasI (l : List Itm) (x : Itm) : Bool := l.any (fun y => y.k == x.k && y.r == x.r)
theorem hasI_iff {l : List Itm} {x : Itm} : hasI l x = true ↔ x ∈ l := by
  unfold hasI
  rw [List.any_eq_true]
  constructor
  · rintro ⟨y, hy, h⟩
    have : y = x := by obtain ⟨a, b⟩ := y; obtain ⟨c, d⟩ := x; simpa using h
    exact this ▸ hy
  · intro h; exact ⟨x, h, by simp⟩
theorem posI_le (l : List Itm) (x : Itm) : posI l x ≤ l.length := List.length_filter_le _ _
theorem srt_split {l : List Itm} (h : SrtI l) (x : Itm) : ∃ k, k ≤ l.length ∧ (∀ i (hi : i < l.length), i < k → lessP l[i] x) ∧ (∀ i (hi : i < l.length), k ≤ i → ¬ lessP l[i] x) := by
  induction l with
  | nil => exact ⟨0, by simp, fun i hi => by simp at hi, fun i hi => by simp at hi⟩
  | cons y l ih =>
    obtain ⟨hx, hl⟩ := List.pairwise_cons.1 h
    by_cases c : lessP y x
    · obtain ⟨k, hk, h1, h2⟩ := ih hl
      refine ⟨k + 1, by simp; omega, fun i hi hk => ?_, fun i hi hk => ?_⟩
      · cases i with
        | zero => exact c
        | succ i => exact h1 i (by simpa using hi) (by omega)
      · cases i with
        | zero => omega
        | succ i => exact h2 i (by simpa using hi) (by omega)
    · refine ⟨0, by simp, fun i hi hk => by omega, fun i hi hk => ?_⟩
      cases i with
      | zero => exact c
      | succ i => exact fun hc => c (lessP_trans (hx (l[i]'(by simpa using hi)) (List.getElem_mem _)) hc)
theorem srt_parts {l : List Itm} (x : Itm) {k : Nat} (hk : k ≤ l.length) (h1 : ∀ i (hi : i < l.length), i < k → lessP l[i] x) (h2 : ∀ i (hi : i < l.length), k ≤ i → ¬ lessP l[i] x) : l.filter (fun y => lessI y x) = l.take k := by
  conv => lhs; rw [← List.take_append_drop k l]
  rw [List.filter_append, List.filter_eq_self.2, List.filter_eq_nil_iff.2, List.append_nil]
  · intro y hy
    obtain ⟨i, hi, rfl⟩ := List.getElem_of_mem hy
    rw [List.length_drop] at hi
    rw [List.getElem_drop]; exact h2 _ (by omega) (by omega)
  · intro y hy
    obtain ⟨i, hi, rfl⟩ := List.getElem_of_mem hy
    rw [List.length_take] at hi
    rw [List.getElem_take]; exact h1 _ (by omega) (by omega)
theorem posI_of {l : List Itm} (x : Itm) {k : Nat} (hk : k ≤ l.length) (h1 : ∀ i (hi : i < l.length), i < k → lessP l[i] x) (h2 : ∀ i (hi : i < l.length), k ≤ i → ¬ lessP l[i] x) : posI l x = k := by
  unfold posI; rw [srt_parts x hk h1 h2, List.length_take]; omega
theorem posI_parts {l : List Itm} (h : SrtI l) (x : Itm) : (∀ i (hi : i < l.length), i < posI l x → lessP l[i] x) ∧ (∀ i (hi : i < l.length), posI l x ≤ i → ¬ lessP l[i] x) := by
  obtain ⟨k, hk, h1, h2⟩ := srt_split h x
  rw [posI_of x hk h1 h2]
  exact ⟨h1, h2⟩
theorem hasI_of {l : List Itm} (h : SrtI l) (x : Itm) : hasI l x = true ↔ ∃ hk : posI l x < l.length, l[posI l x] = x := by
  obtain ⟨h1, h2⟩ := posI_parts h x
  rw [hasI_iff]
  constructor
  · intro hx
    obtain ⟨i, hi, rfl⟩ := List.getElem_of_mem hx
    have c : posI l l[i] ≤ i := by
      by_cases c : posI l l[i] ≤ i
      · exact c
      · exact absurd (h1 i hi (by omega)) (lessP_irrefl _)
    refine ⟨by omega, ?_⟩
    by_cases c2 : posI l l[i] = i
    · simp only [c2]
    · exact absurd (List.pairwise_iff_getElem.1 h (posI l l[i]) i (by omega) hi (by omega)) (h2 _ (by omega) (Nat.le_refl _))
  · rintro ⟨hk, he⟩
    exact he ▸ List.getElem_mem hk
theorem putL_parts {l : List Itm} (h : SrtI l) (x : Itm) (hx : hasI l x = false) : putL l x = l.take (posI l x) ++ [x] ++ l.drop (posI l x) := by
  obtain ⟨h1, h2⟩ := posI_parts h x
  have hk := posI_le l x
  unfold putL
  rw [srt_parts x hk h1 h2]
  congr 1
  conv => lhs; rw [← List.take_append_drop (posI l x) l]
  rw [List.filter_append, List.filter_eq_nil_iff.2, List.filter_eq_self.2, List.nil_append]
  · intro y hy
    have hy' := List.mem_of_mem_drop hy
    obtain ⟨i, hi, rfl⟩ := List.getElem_of_mem hy
    rw [List.length_drop] at hi
    rw [List.getElem_drop] at hy' ⊢
    by_cases c : lessI x l[posI l x + i] = true
    · exact c
    · have := lessP_total c (h2 _ (by omega) (by omega))
      rw [← this] at hy'
      rw [hasI_iff.2 hy'] at hx; cases hx
  · intro y hy
    obtain ⟨i, hi, rfl⟩ := List.getElem_of_mem hy
    rw [List.length_take] at hi
    rw [List.getElem_take]
    exact lessP_asym (h1 _ (by omega) (by omega))
def delL (l : List Itm) (x : Itm) : List Itm := l.filter (fun y => !(y.k == x.k && y.r == x.r))
theorem neI {a b : Itm} : (!(a.k == b.k && a.r == b.r)) = true ↔ a ≠ b := by
  obtain ⟨a1, a2⟩ := a
  obtain ⟨b1, b2⟩ := b
  by_cases h1 : a1 = b1 <;> by_cases h2 : a2 = b2 <;> simp [h1, h2]
theorem mem_delL {l : List Itm} {x y : Itm} : y ∈ delL l x ↔ y ∈ l ∧ y ≠ x := by
  unfold delL
  rw [List.mem_filter]
  rw [neI]
theorem delL_no {l : List Itm} {x : Itm} (h : hasI l x = false) : delL l x = l := by
  unfold delL
  refine List.filter_eq_self.2 fun y hy => ?_
  refine neI.2 fun e => ?_
  subst e
  rw [hasI_iff.2 hy] at h; cases h
theorem delL_parts {l : List Itm} (h : SrtI l) (x : Itm) (hx : hasI l x = true) : delL l x = l.take (posI l x) ++ l.drop (posI l x + 1) := by
  obtain ⟨hk, he⟩ := (hasI_of h x).1 hx
  have hn := srt_nodup h
  have e : l = l.take (posI l x) ++ x :: l.drop (posI l x + 1) := by
    conv => lhs; rw [← List.take_append_drop (posI l x) l]
    rw [List.drop_eq_getElem_cons hk, he]
  generalize l.take (posI l x) = a at e ⊢
  generalize l.drop (posI l x + 1) = b at e ⊢
  subst e
  have hn' := List.nodup_append.1 hn
  have hb := List.nodup_cons.1 hn'.2.1
  unfold delL
  rw [List.filter_append, List.filter_cons]
  simp only [beq_self_eq_true, Bool.and_self, Bool.not_true, Bool.false_eq_true, if_false]
  congr 1
  · refine List.filter_eq_self.2 fun y hy => ?_
    exact neI.2 (hn'.2.2 y hy x (List.mem_cons_self ..))
  · refine List.filter_eq_self.2 fun y hy => ?_
    exact neI.2 (fun e => by subst e; exact hb.1 hy)
theorem srt_delL {l : List Itm} (h : SrtI l) (x : Itm) : SrtI (delL l x) := List.Pairwise.filter _ h
/-- working off -/
def drnS (l : List Itm) (m : RMove) : List Itm := if m.gone then delL l (mvItm m) else if hasI l (mvItm m) then l else putL l (mvItm m)
def drnL (l : List Itm) (ms : List RMove) : List Itm := ms.foldl drnS l
theorem drnL_take {l : List Itm} {ms : List RMove} {k : Nat} (h : k < ms.length) : drnL l (ms.take (k + 1)) = drnS (drnL l (ms.take k)) ms[k] := by
  unfold drnL; rw [List.take_succ_eq_append_getElem h, List.foldl_append]; rfl
theorem srt_drnS {l : List Itm} (h : SrtI l) (m : RMove) : SrtI (drnS l m) := by
  unfold drnS; split
  · exact srt_delL h _
  · split
    · exact h
    · exact srt_putL h _
theorem srt_drnL {l : List Itm} (h : SrtI l) (ms : List RMove) : SrtI (drnL l ms) := by
  unfold drnL
  induction ms generalizing l with
  | nil => exact h
  | cons m ms ih => exact ih (srt_drnS h m)
theorem mem_drnS {l : List Itm} {m : RMove} {y : Itm} : y ∈ drnS l m ↔ (y ∈ l ∧ (m.gone = true → y ≠ mvItm m)) ∨ (m.gone = false ∧ y = mvItm m) := by
  unfold drnS
  cases hg : m.gone with
  | true => simp [mem_delL]
  | false =>
    simp
    split
    · rename_i h
      rw [hasI_iff] at h
      constructor
      · exact .inl
      · rintro (h' | rfl)
        · exact h'
        · exact h
    · rw [mem_putL']; exact Or.comm
theorem drnS_len {l : List Itm} (m : RMove) : (drnS l m).length ≤ l.length + 1 := by
  unfold drnS
  have hp : (putL l (mvItm m)).length ≤ l.length + 1 := by
    unfold putL
    have : ∀ l : List Itm, (l.filter (fun y => lessI y (mvItm m))).length + (l.filter (fun y => lessI (mvItm m) y)).length ≤ l.length := by
      intro l
      induction l with
      | nil => simp
      | cons y l ih =>
        cases h1 : lessI y (mvItm m) with
        | true =>
          have h2 : lessI (mvItm m) y = false := less_asym h1
          simp [List.filter_cons, h1, h2]; omega
        | false => cases h2 : lessI (mvItm m) y <;> simp [List.filter_cons, h1, h2] <;> omega
    have := this l
    simp; omega
  split
  · have := List.length_filter_le (fun y => !(y.k == (mvItm m).k && y.r == (mvItm m).r)) l; unfold delL; omega
  · split <;> omega
theorem drnL_len (l : List Itm) (ms : List RMove) : (drnL l ms).length ≤ l.length + ms.length := by
  unfold drnL
  induction ms generalizing l with
  | nil => simp
  | cons m ms ih => have := ih (drnS l m); have := drnS_len (l := l) m; simp; omega
/-- an index that is built while rows change -/
structure BS where
  rows : List Itm
  pos : Int
  items : List Itm
  side : List RMove
def scanB (b : BS) : BS := match b.rows.find? (gtR b.pos) with
  | some x => ⟨b.rows, x.r, b.items ++ [x], b.side⟩
  | none => ⟨b.rows, 99, b.items, b.side⟩
def oldM (l : List Itm) (m : RMove) : List RMove := match l.find? (fun e => e.r == m.row) with
  | some e => [⟨false, true, m.row, e.k⟩]
  | none => []
def newM (m : RMove) : List RMove := if m.gone then [] else [m]
def sideM (b : BS) (m : RMove) : List RMove := if m.row ≤ b.pos then b.side ++ oldM b.rows m ++ newM m else b.side
def changeB (b : BS) (m : RMove) : BS := ⟨setRowL b.rows m, b.pos, b.items, sideM b m⟩
def stepB (b : BS) (m : RMove) : BS := if m.scan then scanB b else changeB b m
def bsAt (l : List Itm) (ms : List RMove) (k : Nat) : BS := (ms.take k).foldl stepB ⟨l, -1, [], []⟩
theorem bsAt_0 (l : List Itm) (ms : List RMove) : bsAt l ms 0 = ⟨l, -1, [], []⟩ := rfl
theorem bsAt_s {l : List Itm} {ms : List RMove} {k : Nat} (h : k < ms.length) : bsAt l ms (k + 1) = stepB (bsAt l ms k) ms[k] := by
  unfold bsAt; rw [List.take_succ_eq_append_getElem h, List.foldl_append]; rfl
theorem scanB_rows (b : BS) : (scanB b).rows = b.rows ∧ (scanB b).side = b.side := by unfold scanB; split <;> exact ⟨rfl, rfl⟩
theorem bsAt_rows (l : List Itm) (ms : List RMove) : ∀ k, k ≤ ms.length → (bsAt l ms k).rows = rowsAt l ms k := by
  intro k
  induction k with
  | zero => intro _; rfl
  | succ k ih =>
    intro hk
    rw [bsAt_s hk, rowsAt_s hk, ← ih (by omega)]
    unfold stepB stepR
    split
    · exact (scanB_rows _).1
    · rfl
structure InvB (b : BS) : Prop where
  asc : AscR b.rows
  ok : ∀ x ∈ b.rows, okI x = true
  pos : -1 ≤ b.pos ∧ b.pos ≤ 99
  itA : AscR b.items
  itO : ∀ x ∈ b.items, okI x = true ∧ x.r ≤ b.pos
  sd : ∀ m ∈ b.side, m.row ≤ b.pos ∧ m.scan = false ∧ vMove m
  law : ∀ y, y ∈ drnL (ordL b.items) b.side ↔ y ∈ b.rows ∧ y.r ≤ b.pos
theorem InvB.start {l : List Itm} (h : vRows l) : InvB ⟨l, -1, [], []⟩ where
  asc := h.2.2
  ok := h.2.1
  pos := ⟨by simp, by simp⟩
  itA := List.Pairwise.nil
  itO := fun x hx => by simp at hx
  sd := fun x hx => by simp at hx
  law := fun y => by
    simp [drnL, ordL]
    intro hy
    have := h.2.1 y hy
    simp [okI] at this; omega
theorem drnL_add {l l' : List Itm} {x : Itm} (ms : List RMove) (h : ∀ y, y ∈ l' ↔ y = x ∨ y ∈ l) (hm : ∀ m ∈ ms, m.row ≠ x.r) : ∀ y, y ∈ drnL l' ms ↔ y = x ∨ y ∈ drnL l ms := by
  induction ms generalizing l l' with
  | nil => exact h
  | cons m ms ih =>
    have hmx : mvItm m ≠ x := fun e => hm m (List.mem_cons_self ..) (by rw [← e]; rfl)
    refine ih (l := drnS l m) (l' := drnS l' m) (fun y => ?_) (fun m' hm' => hm m' (List.mem_cons_of_mem _ hm'))
    rw [mem_drnS, mem_drnS, h]
    constructor
    · rintro (⟨h1 | h1, h2⟩ | h1)
      · exact .inl h1
      · exact .inr (.inl ⟨h1, h2⟩)
      · exact .inr (.inr h1)
    · rintro (h1 | ⟨h1, h2⟩ | h1)
      · exact .inl ⟨.inl h1, fun _ e => hmx (by rw [← e, h1])⟩
      · exact .inl ⟨.inr h1, h2⟩
      · exact .inr h1
theorem InvB.scan {b : BS} (h : InvB b) : InvB (scanB b) := by
  unfold scanB
  split
  · rename_i x hx
    have hp := List.find?_some hx
    have hm := List.mem_of_find?_eq_some hx
    obtain ⟨pre, post, hab, hno⟩ := (List.find?_eq_some_iff_append.1 hx).2
    simp only [gtR, decide_eq_true_eq] at hp
    have hox := h.ok x hm
    have hox' := hox
    simp only [okI, decide_eq_true_eq] at hox'
    have low : ∀ y ∈ b.rows, y.r ≤ x.r ↔ y.r ≤ b.pos ∨ y = x := by
      intro y hy
      have hasc := h.asc
      rw [hab] at hy hasc
      have h3 := List.pairwise_append.1 hasc
      have h4 := List.pairwise_cons.1 h3.2.1
      rcases List.mem_append.1 hy with h1 | h1
      · have := hno y h1
        simp [gtR] at this
        constructor
        · intro _; exact .inl this
        · intro _; omega
      · rcases List.mem_cons.1 h1 with rfl | h1
        · simp
        · have h5 := h4.1 y h1
          unfold nextr at h5
          constructor
          · intro _; omega
          · rintro (h6 | rfl) <;> omega
    refine ⟨h.asc, h.ok, ⟨by simp; omega, by simp; omega⟩, ?_, ?_, ?_, ?_⟩
    · refine List.pairwise_append.2 ⟨h.itA, List.pairwise_singleton _ _, fun a ha c hc => ?_⟩
      simp at hc; subst hc
      have := (h.itO a ha).2
      unfold nextr; omega
    · intro y hy
      rcases List.mem_append.1 hy with hy | hy
      · have := h.itO y hy
        exact ⟨this.1, by simp; omega⟩
      · simp at hy; subst hy; exact ⟨hox, by simp⟩
    · intro m hm
      have := h.sd m hm
      exact ⟨by simp; omega, this.2⟩
    · intro y
      show y ∈ drnL (ordL (b.items ++ [x])) b.side ↔ y ∈ b.rows ∧ y.r ≤ x.r
      rw [ordL_snoc, drnL_add b.side (fun y => mem_putL') (fun m hm => by have := (h.sd m hm).1; omega), h.law]
      constructor
      · rintro (rfl | ⟨h1, h2⟩)
        · exact ⟨hm, by omega⟩
        · exact ⟨h1, (low y h1).2 (.inl h2)⟩
      · rintro ⟨h1, h2⟩
        rcases (low y h1).1 h2 with h3 | h3
        · exact .inr ⟨h1, h3⟩
        · exact .inl h3
  · rename_i hx
    have hno := List.find?_eq_none.1 hx
    have := h.pos
    refine ⟨h.asc, h.ok, ⟨by simp, by simp⟩, h.itA, fun y hy => ?_, fun m hm => ?_, fun y => ?_⟩
    · have := h.itO y hy
      exact ⟨this.1, by simp; omega⟩
    · have := h.sd m hm
      exact ⟨by simp; omega, this.2⟩
    · show y ∈ drnL (ordL b.items) b.side ↔ y ∈ b.rows ∧ y.r ≤ 99
      rw [h.law]
      constructor
      · rintro ⟨h1, h2⟩; exact ⟨h1, by omega⟩
      · rintro ⟨h1, h2⟩
        have := hno y h1
        simp [gtR] at this
        exact ⟨h1, this⟩
theorem drnL_append (l : List Itm) (a c : List RMove) : drnL l (a ++ c) = drnL (drnL l a) c := by unfold drnL; rw [List.foldl_append]
theorem asc_uniq {l : List Itm} (h : AscR l) {x y : Itm} (hx : x ∈ l) (hy : y ∈ l) (e : x.r = y.r) : x = y := by
  obtain ⟨i, hi, rfl⟩ := List.getElem_of_mem hx
  obtain ⟨j, hj, rfl⟩ := List.getElem_of_mem hy
  rcases Nat.lt_trichotomy i j with c | c | c
  · have := List.pairwise_iff_getElem.1 h i j hi hj c; unfold nextr at this; omega
  · subst c; rfl
  · have := List.pairwise_iff_getElem.1 h j i hj hi c; unfold nextr at this; omega
theorem InvB.change {b : BS} (h : InvB b) {m : RMove} (hm : vMove m) (hs : m.scan = false) : InvB (changeB b m) := by
  have hold : ∀ q ∈ oldM b.rows m, q.row = m.row ∧ q.scan = false ∧ vMove q := by
    intro q hq
    unfold oldM at hq
    split at hq
    · rename_i e he
      have h1 := h.ok e (List.mem_of_find?_eq_some he)
      simp only [okI, decide_eq_true_eq] at h1
      simp at hq; subst hq
      exact ⟨rfl, rfl, hm.1, by simpa using h1.1⟩
    · simp at hq
  have hnew : ∀ q ∈ newM m, q = m := by
    intro q hq
    unfold newM at hq
    split at hq
    · simp at hq
    · simpa using hq
  refine ⟨asc_setRowL h.asc m, ok_setRowL h.ok hm, h.pos, h.itA, h.itO, ?_, ?_⟩
  · intro q hq
    show q.row ≤ b.pos ∧ _
    have hq' : q ∈ sideM b m := hq
    unfold sideM at hq'
    split at hq'
    · rename_i hc
      rcases List.mem_append.1 hq' with hq' | hq'
      · rcases List.mem_append.1 hq' with hq' | hq'
        · exact h.sd q hq'
        · obtain ⟨h1, h2, h3⟩ := hold q hq'
          exact ⟨by omega, h2, h3⟩
      · rw [hnew q hq']; exact ⟨hc, hs, hm⟩
    · exact h.sd q hq'
  · intro y
    show y ∈ drnL (ordL b.items) (sideM b m) ↔ y ∈ setRowL b.rows m ∧ y.r ≤ b.pos
    rw [mem_setRowL]
    unfold sideM
    split
    · rename_i hc
      rw [List.append_assoc, drnL_append, drnL_append]
      have hL := h.law
      generalize drnL (ordL b.items) b.side = D at hL ⊢
      have h1 : ∀ y, y ∈ drnL D (oldM b.rows m) ↔ (y ∈ b.rows ∧ y.r ≠ m.row) ∧ y.r ≤ b.pos := by
        intro y
        unfold oldM
        split
        · rename_i e he
          have he1 := List.mem_of_find?_eq_some he
          have he2 : e.r = m.row := by simpa using List.find?_some he
          change y ∈ drnS D ⟨false, true, m.row, e.k⟩ ↔ _
          rw [mem_drnS, hL]
          have hmv : mvItm ⟨false, true, m.row, e.k⟩ = e := by rw [← he2]; rfl
          rw [hmv]
          constructor
          · rintro (⟨⟨h1, h2⟩, h3⟩ | ⟨h1, _⟩)
            · exact ⟨⟨h1, fun q => h3 rfl (asc_uniq h.asc h1 he1 (by omega))⟩, h2⟩
            · cases h1
          · rintro ⟨⟨h1, h2⟩, h3⟩
            exact .inl ⟨⟨h1, h3⟩, fun _ q => h2 (by rw [q]; exact he2)⟩
        · rename_i he
          show y ∈ D ↔ _
          rw [hL]
          have hno := List.find?_eq_none.1 he
          constructor
          · rintro ⟨h1, h2⟩
            exact ⟨⟨h1, fun q => by have := hno y h1; simp at this; exact this q⟩, h2⟩
          · rintro ⟨⟨h1, _⟩, h2⟩; exact ⟨h1, h2⟩
      unfold newM
      split
      · rename_i hg
        show y ∈ drnL D (oldM b.rows m) ↔ _
        rw [h1]; simp [hg]
      · rename_i hg
        show y ∈ drnS (drnL D (oldM b.rows m)) m ↔ _
        rw [mem_drnS, h1]
        have hg' : m.gone = false := by simpa using hg
        constructor
        · rintro (⟨⟨h2, h3⟩, _⟩ | ⟨_, h2⟩)
          · exact ⟨.inl h2, h3⟩
          · exact ⟨.inr ⟨hg', h2⟩, by rw [h2]; exact hc⟩
        · rintro ⟨h2 | ⟨_, h2⟩, h3⟩
          · exact .inl ⟨⟨h2, h3⟩, fun q => by rw [hg'] at q; cases q⟩
          · exact .inr ⟨hg', h2⟩
    · rename_i hc
      rw [h.law]
      constructor
      · rintro ⟨h1, h2⟩; exact ⟨.inl ⟨h1, by omega⟩, h2⟩
      · rintro ⟨⟨h1, _⟩ | ⟨_, h1⟩, h2⟩
        · exact ⟨h1, h2⟩
        · rw [h1] at h2; exact absurd h2 hc
theorem InvB.at {l : List Itm} {ms : List RMove} (h : vRows l) (hm : ∀ k (h : k < ms.length), ms[k].scan = false → vMove ms[k]) : ∀ k, k ≤ ms.length → InvB (bsAt l ms k) := by
  intro k
  induction k with
  | zero => intro _; exact InvB.start h
  | succ k ih =>
    intro hk
    rw [bsAt_s hk]
    unfold stepB
    split
    · exact (ih (by omega)).scan
    · rename_i hs
      have hs' : ms[k].scan = false := by simpa using hs
      exact (ih (by omega)).change (hm k hk hs') hs'
theorem oldM_len (l : List Itm) (m : RMove) : (oldM l m).length ≤ 1 := by unfold oldM; split <;> simp
theorem newM_len (m : RMove) : (newM m).length ≤ 1 := by unfold newM; split <;> simp
theorem side_len (l : List Itm) (ms : List RMove) : ∀ k, k ≤ ms.length → (bsAt l ms k).side.length ≤ 2 * k ∧ (bsAt l ms k).items.length ≤ k := by
  intro k
  induction k with
  | zero => intro _; simp [bsAt]
  | succ k ih =>
    intro hk
    have h := ih (by omega)
    rw [bsAt_s hk]
    unfold stepB
    split
    · rw [(scanB_rows _).2]
      refine ⟨by omega, ?_⟩
      unfold scanB
      split <;> simp <;> omega
    · have h1 := oldM_len (bsAt l ms k).rows ms[k]
      have h2 := newM_len ms[k]
      show (sideM (bsAt l ms k) ms[k]).length ≤ _ ∧ (bsAt l ms k).items.length ≤ _
      unfold sideM
      split
      · rw [List.length_append, List.length_append]; omega
      · omega
/-- when the scan is over, what is drained is the rows in order -/
theorem InvB.done {b : BS} (h : InvB b) (hp : b.pos = 99) : drnL (ordL b.items) b.side = ordL b.rows := by
  refine srt_ext (srt_drnL (ordL_spec _).1 _) (ordL_spec _).1 fun y => ?_
  rw [h.law, (ordL_spec _).2]
  constructor
  · exact fun h => h.1
  · intro hy
    have := h.ok y hy
    simp only [okI, decide_eq_true_eq] at this
    exact ⟨hy, by omega⟩
theorem scanB_up {b : BS} (h : InvB b) (hp : b.pos < 99) : b.pos < (scanB b).pos ∧ (scanB b).pos ≤ 99 := by
  refine ⟨?_, h.scan.pos.2⟩
  unfold scanB
  split
  · rename_i x hx
    have hp := List.find?_some hx
    simpa [gtR] using hp
  · exact hp
theorem scanB_top {b : BS} (h : InvB b) (hp : b.pos = 99) : b.rows.find? (gtR b.pos) = none := by
  rw [List.find?_eq_none]
  intro y hy
  have := h.ok y hy
  simp only [okI, decide_eq_true_eq] at this
  simp [gtR]; omega
/-- the first row behind a number -/
theorem find_gt {l : List Itm} (h : AscR l) (n : Int) : l.find? (gtR n) = l[posR l (n + 1)]? := by
  obtain ⟨h1, h2⟩ := posR_parts h (n + 1)
  have hk := posR_le l (n + 1)
  generalize posR l (n + 1) = k at *
  by_cases c : k < l.length
  · rw [List.getElem?_eq_getElem c, List.find?_eq_some_iff_getElem]
    refine ⟨by have := h2 k c (Nat.le_refl _); simp [gtR]; omega, k, c, rfl, fun j hj => ?_⟩
    have := h1 j (by omega) hj
    simp [gtR]; omega
  · rw [List.getElem?_eq_none (by omega), List.find?_eq_none]
    intro x hx
    obtain ⟨i, hi, rfl⟩ := List.getElem_of_mem hx
    have := h1 i hi (by omega)
    simp [gtR]; omega
theorem find_at {l : List Itm} (h : AscR l) (n : Int) : l.find? (fun e => e.r == n) = if hasR l n then l[posR l n]? else none := by
  obtain ⟨h1, h2⟩ := posR_parts h n
  have hk := posR_le l n
  have hh := hasR_of h n hk h1 h2
  split
  · rename_i hq
    obtain ⟨c, he⟩ := hh.1 hq
    rw [List.getElem?_eq_getElem c, List.find?_eq_some_iff_getElem]
    refine ⟨by simpa using he, _, c, rfl, fun j hj => ?_⟩
    have := h1 j (by omega) hj
    simp; omega
  · rename_i hq
    rw [List.find?_eq_none]
    intro x hx
    intro e
    apply hq
    unfold hasR
    rw [List.any_eq_true]
    exact ⟨x, hx, e⟩
theorem asc_len {l : List Itm} (h : AscR l) (ho : ∀ x ∈ l, okI x = true) : l.length ≤ 100 := by
  have key : ∀ i (hi : i < l.length), (i : Int) ≤ l[i].r := by
    intro i
    induction i with
    | zero =>
      intro hi
      have := ho l[0] (List.getElem_mem _)
      simp only [okI, decide_eq_true_eq] at this
      simp; omega
    | succ i ih =>
      intro hi
      have h1 := ih (by omega)
      have h2 := List.pairwise_iff_getElem.1 h i (i + 1) (by omega) hi (by omega)
      unfold nextr at h2; omega
  by_cases c : l.length ≤ 100
  · exact c
  · have h1 := key 100 (by omega)
    have h2 := ho l[100] (List.getElem_mem _)
    simp only [okI, decide_eq_true_eq] at h2
    omega
end Go.Proofs.Ytmlphdniiiijpaa
