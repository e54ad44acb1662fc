/-
  CheckOf of the program.
-/
import Derived.Test.YtnicjpfkiblimaaChk5
import Derived.Test.YtnicjpfkiblimaaChk6
set_option linter.all false
namespace Go.Proofs.Ytnicjpfkiblimaa
open Go.RowKit
def hit (x : RCell) (t i : Nat) (n : RNote) : Bool := (!n.fin && (n.thing == (t : Int))) && decide (x.lsn < (i : Int) + 1)
def hitF (c : List RCell) (l : List RNote) (t i : Nat) : Bool := match c[t]?, l[i]? with
  | some x, some n => hit x t i n
  | _, _ => false
theorem hitF_at {c : List RCell} {l : List RNote} {t i : Nat} (ht : t < c.length) (hi : i < l.length) : hitF c l t i = hit c[t] t i l[i] := by
  unfold hitF
  rw [List.getElem?_eq_getElem ht, List.getElem?_eq_getElem hi]
/-- the number of the first i from k on, among m, with p; 0 if there is none -/
def lo (p : Nat → Bool) : Nat → Nat → Nat
  | _, 0 => 0
  | i, m + 1 => if p i then i + 1 else lo p (i + 1) m
theorem lo_yes {p : Nat → Bool} {i m : Nat} (h : p i = true) : lo p i (m + 1) = i + 1 := by simp [lo, h]
theorem lo_no {p : Nat → Bool} {i m : Nat} (h : p i = false) : lo p i (m + 1) = lo p (i + 1) m := by simp [lo, h]
theorem lo_le (p : Nat → Bool) : ∀ m i, lo p i m ≤ i + m := by
  intro m
  induction m with
  | zero => intro i; simp [lo]
  | succ m ih =>
    intro i
    have := ih (i + 1)
    unfold lo
    split <;> omega
def fstN (c : List RCell) (l : List RNote) (t : Nat) : Nat := lo (hitF c l t) 0 l.length
def dirT (F : Nat → Nat) : Nat → List Int
  | 0 => []
  | k + 1 => if F k = 0 then dirT F k else dirT F k ++ [(k : Int)]
def firT (F : Nat → Nat) : Nat → List Int
  | 0 => []
  | k + 1 => if F k = 0 then firT F k else firT F k ++ [(F k : Int)]
theorem dirT_no {F : Nat → Nat} {k : Nat} (h : F k = 0) : dirT F (k + 1) = dirT F k := by simp [dirT, h]
theorem dirT_yes {F : Nat → Nat} {k : Nat} (h : F k ≠ 0) : dirT F (k + 1) = dirT F k ++ [(k : Int)] := by simp [dirT, h]
theorem firT_no {F : Nat → Nat} {k : Nat} (h : F k = 0) : firT F (k + 1) = firT F k := by simp [firT, h]
theorem firT_yes {F : Nat → Nat} {k : Nat} (h : F k ≠ 0) : firT F (k + 1) = firT F k ++ [(F k : Int)] := by simp [firT, h]
theorem dirT_len (F : Nat → Nat) : ∀ k, (dirT F k).length ≤ k ∧ (firT F k).length = (dirT F k).length := by
  intro k
  induction k with
  | zero => simp [dirT, firT]
  | succ k ih =>
    unfold dirT firT
    split
    · omega
    · simp; omega
/-- two rows of numbers that the call owns, in two blocks -/
def Rows2 (B : Nat) (w : World) (d f : Value) (ds fs : List Int) : Prop :=
  OwnN B w d ds ∧ OwnN B w f fs ∧ ∀ b, d.ownBlock = some b → f.ownBlock ≠ some b
theorem Rows2.keep {B : Nat} {w w' : World} {d f : Value} {ds fs : List Int} (h : Rows2 B w d f ds fs) (hb : Below w.heap.size w w') : Rows2 B w' d f ds fs := ⟨h.1.keep hb, h.2.1.keep hb, h.2.2⟩
theorem own_set {B g o : Nat} {w : World} {v x : Value} {ns : List Int} (h : OwnN B w v ns) (hg : g < B) : OwnN B (w.setCell ⟨g, o, none⟩ x) v ns :=
  World.ownsRow.kept h (grown_setCell w g o x) (by
    by_cases hv : v.ownBlock = none
    · exact .inl hv
    · exact .inr (fun e => by have := World.ownsRow.lt h g e; omega))
theorem own_kept {B : Nat} {w w' : World} {d f : Value} {fs : List Int} (h : OwnN B w f fs) (hg : w.grownBy w' d.ownBlock) (hne : ∀ b, d.ownBlock = some b → f.ownBlock ≠ some b) : OwnN B w' f fs :=
  World.ownsRow.kept h hg (by
    cases hf : f.ownBlock with
    | none => exact .inl rfl
    | some b => exact .inr (fun e => hne b e.symm hf))
def OBox (g : Nat) (w : World) (ds fs : List Int) : Prop :=
  ∃ d f, w.heap[g]? = some (.cells #[d, f, .slice none 0 0] 29 (0, 0)) ∧ Rows2 (g + 1) w d f ds fs
theorem OBox.keep {g : Nat} {w w' : World} {ds fs : List Int} (h : OBox g w ds fs) (hb : Below w.heap.size w w') : OBox g w' ds fs := by
  obtain ⟨d, f, h1, h2⟩ := h
  exact ⟨d, f, blk_own hb h1, h2.keep hb⟩
/-- what CheckOf returns -/
def CkOf (c : List RCell) (l : List RNote) (ds fs ac : List Int) : Prop :=
  (usP c l → ds = dirT (fstN c l) c.length ∧ fs = firT (fstN c l) c.length ∧ ac = openT l 8) ∧ (¬ usP c l → ds = [] ∧ fs = [] ∧ ac = [])
/-- three rows in three blocks -/
def Rows3 (B : Nat) (w : World) (d f a : Value) (ds fs ac : List Int) : Prop :=
  Rows2 B w d f ds fs ∧ OwnN B w a ac ∧ ∀ b, a.ownBlock = some b → d.ownBlock ≠ some b ∧ f.ownBlock ≠ some b
def CkRet (w : World) (c : List RCell) (l : List RNote) (e : Ending) (w' : World) : Prop :=
  ∃ d f a ds fs ac, e = .returned (.agg #[d, f, a]) ∧ CkOf c l ds fs ac ∧ Rows3 w.heap.size w' d f a ds fs ac ∧ Below w.heap.size w w'
theorem ckret_no {w w' : World} {c : List RCell} {l : List RNote} (h : ¬ usP c l) (hb : Below w.heap.size w w') : CkRet w c l (.returned (.agg #[.slice none 0 0, .slice none 0 0, .slice none 0 0])) w' :=
  ⟨_, _, _, [], [], [], rfl, ⟨fun h' => absurd h' h, fun _ => ⟨rfl, rfl, rfl⟩⟩, ⟨⟨World.ownsRow_nil _ _ _ _, World.ownsRow_nil _ _ _ _, fun b hb => by simp [Value.ownBlock] at hb⟩, World.ownsRow_nil _ _ _ _, fun b hb => by simp [Value.ownBlock] at hb⟩, hb⟩
end Go.Proofs.Ytnicjpfkiblimaa
