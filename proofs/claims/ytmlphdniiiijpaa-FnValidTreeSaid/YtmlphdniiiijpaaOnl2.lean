/-
  What RowsAfter, SideOf, DrainSide, BuildOnline, CanBeUnique and FirstClash come to. No program stands here.
-/
import Derived.Test.YtmlphdniiiijpaaOnl
set_option linter.all false
namespace Go.Proofs.Ytmlphdniiiijpaa
theorem take_all (l : List Itm) (ms : List RMove) : rowsAt l ms ms.length = ms.foldl stepR l := by unfold rowsAt; rw [List.take_length]
theorem rows_len {l : List Itm} {ms : List RMove} (h : vMoves l ms) : ∀ k, k ≤ ms.length → (rowsAt l ms k).length ≤ 30 := by
  intro k hk
  cases k with
  | zero => exact h.1.1.1
  | succ k => exact (h.2 k hk).2
theorem vMoves.mv {l : List Itm} {ms : List RMove} (h : vMoves l ms) : ∀ k (h : k < ms.length), ms[k].scan = false → vMove ms[k] := fun k hk => (h.2 k hk).1
theorem vMoves.asc {l : List Itm} {ms : List RMove} (h : vMoves l ms) : ∀ k, k ≤ ms.length → AscR (rowsAt l ms k) := fun k hk => asc_rowsAt h.1.1.2.2 ms k hk
theorem vMoves.inv {l : List Itm} {ms : List RMove} (h : vMoves l ms) : ∀ k, k ≤ ms.length → InvB (bsAt l ms k) := InvB.at h.1.1 h.mv
/-- rows after moves -/
def AftOf (l : List Itm) (ms : List RMove) (r : List Itm) : Prop := (vMoves l ms → r = rowsAt l ms ms.length) ∧ (¬ vMoves l ms → r = [])
theorem AftOf.uniq {l r r' : List Itm} {ms : List RMove} (h : AftOf l ms r) (h' : AftOf l ms r') : r = r' := by
  by_cases c : vMoves l ms
  · rw [h.1 c, h'.1 c]
  · rw [h.2 c, h'.2 c]
theorem AftOf.len {l r : List Itm} {ms : List RMove} (h : AftOf l ms r) : r.length ≤ 200 := by
  by_cases c : vMoves l ms
  · have := rows_len c ms.length (Nat.le_refl _); rw [h.1 c]; omega
  · rw [h.2 c]; simp
/-- what is written down -/
def SidOf (l : List Itm) (ms : List RMove) (r : List RMove) : Prop := (vMoves l ms → r = (bsAt l ms ms.length).side) ∧ (¬ vMoves l ms → r = [])
theorem SidOf.uniq {l : List Itm} {r r' : List RMove} {ms : List RMove} (h : SidOf l ms r) (h' : SidOf l ms r') : r = r' := by
  by_cases c : vMoves l ms
  · rw [h.1 c, h'.1 c]
  · rw [h.2 c, h'.2 c]
theorem SidOf.len {l : List Itm} {r : List RMove} {ms : List RMove} (h : SidOf l ms r) : r.length ≤ 200 := by
  by_cases c : vMoves l ms
  · have h1 := (side_len l ms ms.length (Nat.le_refl _)).1
    have h2 := c.1.2
    rw [h.1 c]; omega
  · rw [h.2 c]; simp
/-- items after what was written down -/
def vSide (l : List Itm) (ms : List RMove) : Prop := ((ordI l ∧ l.length ≤ 30) ∧ ms.length ≤ 32) ∧ ∀ m ∈ ms, m.scan = false ∧ vMove m
def DrnOf (l : List Itm) (ms : List RMove) (r : List Itm) : Prop := (vSide l ms → r = drnL l ms) ∧ (¬ vSide l ms → r = [])
theorem DrnOf.uniq {l r r' : List Itm} {ms : List RMove} (h : DrnOf l ms r) (h' : DrnOf l ms r') : r = r' := by
  by_cases c : vSide l ms
  · rw [h.1 c, h'.1 c]
  · rw [h.2 c, h'.2 c]
theorem DrnOf.len {l r : List Itm} {ms : List RMove} (h : DrnOf l ms r) : r.length ≤ 200 := by
  by_cases c : vSide l ms
  · have h1 := drnL_len l ms
    have h2 := c.1.1.2
    have h3 := c.1.2
    rw [h.1 c]; omega
  · rw [h.2 c]; simp
theorem ordI_srt {l : List Itm} (h : ordI l) : SrtI l := by
  have step : ∀ i (hi : i + 1 < l.length), lessP (l[i]'(by omega)) l[i + 1] := fun i hi => by
    have := (h (i + 1) hi).2 (by omega)
    simp only [Nat.add_sub_cancel] at this
    exact this
  unfold SrtI
  rw [List.pairwise_iff_getElem]
  intro i j hi hj hij
  obtain ⟨d, rfl⟩ : ∃ d, j = i + 1 + d := ⟨j - i - 1, by omega⟩
  clear hij
  induction d with
  | zero => exact step i hj
  | succ d ih => exact lessP_trans (ih (by omega)) (step (i + 1 + d) hj)
/-- the index that is built -/
def BldOf (l : List Itm) (ms : List RMove) (r : List Itm) : Prop := (vMoves l ms → r = ordL (rowsAt l ms ms.length)) ∧ (¬ vMoves l ms → r = [])
theorem BldOf.uniq {l r r' : List Itm} {ms : List RMove} (h : BldOf l ms r) (h' : BldOf l ms r') : r = r' := by
  by_cases c : vMoves l ms
  · rw [h.1 c, h'.1 c]
  · rw [h.2 c, h'.2 c]
theorem BldOf.len {l r : List Itm} {ms : List RMove} (h : BldOf l ms r) : r.length ≤ 200 := by
  by_cases c : vMoves l ms
  · have h1 := rows_len c ms.length (Nat.le_refl _)
    rw [h.1 c, ordL_len_eq (asc_nodup (c.asc _ (Nat.le_refl _)))]; omega
  · rw [h.2 c]; simp
/-- no key twice -/
def CanOf (l : List Itm) (ms : List RMove) (b : Bool) : Prop := b = true ↔ vMoves l ms ∧ Dbl (ordL (rowsAt l ms ms.length)) (-1)
theorem CanOf.uniq {l : List Itm} {ms : List RMove} {b b' : Bool} (h : CanOf l ms b) (h' : CanOf l ms b') : b = b' := by
  unfold CanOf at h h'
  rw [← h'] at h
  cases b <;> cases b' <;> simp at h ⊢
theorem Dbl.neg {l : List Itm} {n : Int} (h : Dbl l n) (hk : ∀ x ∈ l, 0 ≤ x.k) : n < 0 ↔ n = -1 := by
  rcases h with ⟨j, hj, -, rfl, -⟩ | ⟨rfl, -⟩
  · have := hk _ (List.getElem_mem hj); omega
  · omega
theorem dbl_neg {l : List Itm} {n : Int} (h : Dbl l n) (hk : ∀ x ∈ l, okI x = true) : n < 0 ↔ Dbl l (-1) := by
  rw [h.neg (fun x hx => by have := hk x hx; simp only [okI, decide_eq_true_eq] at this; omega)]
  constructor
  · rintro rfl; exact h
  · exact fun h' => h.uniq h'
theorem ok_ordL {l : List Itm} (h : ∀ x ∈ l, okI x = true) : ∀ x ∈ ordL l, okI x = true := fun x hx => h x (((ordL_spec l).2 x).1 hx)
theorem vMoves.ok {l : List Itm} {ms : List RMove} (h : vMoves l ms) : ∀ k, k ≤ ms.length → ∀ x ∈ rowsAt l ms k, okI x = true := ok_rowsAt h.1.1.2.1 h.mv
/-- the first clash -/
def Clsh (l : List Itm) (ms : List RMove) (k : Nat) : Prop := ¬ Dbl (ordL (rowsAt l ms k)) (-1)
def ClsOf (l : List Itm) (ms : List RMove) (n : Int) : Prop :=
  (¬ (vMoves l ms ∧ ¬ Clsh l ms 0) → n = -2) ∧ (vMoves l ms ∧ ¬ Clsh l ms 0 → (∃ k, k < ms.length ∧ n = (k : Int) ∧ Clsh l ms (k + 1) ∧ ∀ j, j < k → ¬ Clsh l ms (j + 1)) ∨ (n = -1 ∧ ∀ j, j < ms.length → ¬ Clsh l ms (j + 1)))
theorem ClsOf.uniq {l : List Itm} {ms : List RMove} {n n' : Int} (h : ClsOf l ms n) (h' : ClsOf l ms n') : n = n' := by
  by_cases c : vMoves l ms ∧ ¬ Clsh l ms 0
  · rcases h.2 c with ⟨k, hk, rfl, h1, h2⟩ | ⟨rfl, h1⟩ <;> rcases h'.2 c with ⟨k', hk', rfl, h3, h4⟩ | ⟨rfl, h3⟩
    · rcases Nat.lt_trichotomy k k' with q | q | q
      · exact absurd h1 (h4 k q)
      · subst q; rfl
      · exact absurd h3 (h2 k' q)
    · exact absurd h1 (h3 k hk)
    · exact absurd h3 (h1 k' hk')
    · rfl
  · rw [h.1 c, h'.1 c]
/-- a move that carries no false number -/
def okM (m : RMove) : Prop := m.scan = false → vMove m
theorem vMoves_of {l : List Itm} {ms : List RMove} (h1 : vRows l) (h2 : ms.length ≤ 16) (h3 : ∀ k (h : k < ms.length), okM ms[k] ∧ (rowsAt l ms (k + 1)).length ≤ 30) : vMoves l ms := ⟨⟨h1, h2⟩, h3⟩
theorem bs_rows_len {l : List Itm} {ms : List RMove} {k : Nat} (hk : k ≤ ms.length) : (bsAt l ms k).rows.length = (rowsAt l ms k).length := by rw [bsAt_rows l ms k hk]
theorem scanT_pos {b : BS} (h : InvB b) (hb : (b.rows.find? (gtR b.pos)).isSome = false) : (scanB b).pos = 99 ∧ (scanB b) = ⟨b.rows, 99, b.items, b.side⟩ := by
  have : b.rows.find? (gtR b.pos) = none := by
    cases hq : b.rows.find? (gtR b.pos) with
    | none => rfl
    | some x => rw [hq] at hb; cases hb
  unfold scanB
  rw [this]
  exact ⟨rfl, rfl⟩
theorem scan_more {b : BS} (h : InvB b) (hb : (b.rows.find? (gtR b.pos)).isSome = true) : b.pos < (scanB b).pos := by
  unfold scanB
  cases hq : b.rows.find? (gtR b.pos) with
  | none => rw [hq] at hb; cases hb
  | some x =>
    have hp := List.find?_some hq
    simpa [gtR] using hp
theorem InvB.itl {b : BS} (h : InvB b) : b.items.length ≤ 100 := asc_len h.itA (fun x hx => (h.itO x hx).1)
theorem InvB.nodup {b : BS} (h : InvB b) : b.items.Nodup := asc_nodup h.itA
theorem putL_new {b : BS} (h : InvB b) {x : Itm} (hx : b.pos < x.r) : hasI (ordL b.items) x = false := by
  cases hq : hasI (ordL b.items) x with
  | false => rfl
  | true =>
    rw [hasI_iff, (ordL_spec _).2] at hq
    have := (h.itO x hq).2
    omega
end Go.Proofs.Ytmlphdniiiijpaa
