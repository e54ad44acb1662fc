/-
  What the walks of the exact laws share: a call's result as one value, and rows that stay.
-/
import Derived.Test.YtdijcdadcbhipaaDoorFMk
import Derived.Test.YtdijcdadcbhipaaDoorFPl
set_option linter.all false
namespace Go.Proofs.YtdijcdadcbhipaaDoor
open Go.RowKit
/-- what lies in a result: the format, or nothing -/
def resL {α : Type} (o : Option (List α)) : List α := o.getD []
theorem CRet.uni {w w' : World} {o : Option (List RCol)} {e : Ending} (h : CRet w o e w') : ∃ v', e = .returned (.tuple #[v', .bool o.isSome]) ∧ OwnC w.heap.size w' v' (resL o) ∧ Below w.heap.size w w' := by
  obtain ⟨hb, hq⟩ := h
  cases o with
  | none => exact ⟨_, hq, World.ownsRow_nil _ _ _ _, hb⟩
  | some g =>
    obtain ⟨v', h1, h2⟩ := hq
    exact ⟨v', h1, h2, hb⟩
theorem OwnR.kept2 {α : Type} {enc : α → List Value} {k : Nat} {e : TypeId} {B : Nat} {w w' : World} {v : Value} {l : List α} {row : Option Nat} (h : OwnR enc k e B w v l) (hg : w.grownBy w' row) (hne : ∀ j, v.ownBlock = some j → row ≠ some j) : OwnR enc k e B w' v l :=
  World.ownsRow.kept h hg (by
    cases hv : v.ownBlock with
    | none => exact .inl rfl
    | some j => exact .inr (fun e => hne j hv e.symm))
theorem OwnR.top {α : Type} {enc : α → List Value} {k : Nat} {e : TypeId} {B : Nat} {w : World} {v : Value} {l : List α} (h : OwnR enc k e B w v l) : ∀ j, v.ownBlock = some j → j < w.heap.size := fun j hj => (World.ownsRow.lt h j hj).2
theorem OwnC.recs {B : Nat} {w : World} {v : Value} {l : List RCol} (h : OwnC B w v l) : Recs cEnc 4 w v l := OwnR.recs cEnc_len h
theorem OwnV.recs {B : Nat} {w : World} {v : Value} {l : List RVal} (h : OwnV B w v l) : Recs vEnc 3 w v l := OwnR.recs vEnc_len h
theorem OwnC.keep {B : Nat} {w w' : World} {v : Value} {l : List RCol} (h : OwnC B w v l) (hb : Below w.heap.size w w') : OwnC B w' v l := OwnR.keep h hb
theorem OwnV.keep {B : Nat} {w w' : World} {v : Value} {l : List RVal} (h : OwnV B w v l) (hb : Below w.heap.size w w') : OwnV B w' v l := OwnR.keep h hb
theorem resL_len {f : List RCol} {c : RChg} : (resL (chC f c)).length ≤ 5 := by
  unfold resL
  cases h : chC f c with
  | none => simp
  | some g =>
    obtain ⟨h1, h2, rfl⟩ := chC_some h
    exact (fmt_len2 (fmt_new h1 h2)).2.1
theorem markC_one (m : Int) (n : Nat) (hm : m = (n : Int)) (B : Nat) (v : Value) (l : List RCol) (w : World) (h : OwnR cEnc 4 27 B w v l) (h0 : 1 ≤ n) (h1 : n + 4 * l.length ≤ 9000000) :
    Calls Tryd.prog 25 #[v, .int .i64 m] w fun e w' => e = .returned (.int .i64 (m + 4 * (l.length : Int))) ∧ w.grownBy w' v.ownBlock ∧ OwnR cEnc 4 27 B w' v (markC n l.length) := by
  subst hm
  exact (markColumnS_any B v l n w h h0 h1).mono fun e w' ⟨q1, q2, q3⟩ => ⟨q1.trans (ret_int (by omega)), q2, q3⟩
theorem heldC_one (v : Value) (k : Nat) (w : World) (h : Recs cEnc 4 w v (markC 1 k)) (h1 : 1 + 4 * k ≤ 9000000) :
    Calls Tryd.prog 26 #[v, .int .i64 1] w fun e w' => e = .returned (.int .i64 (1 + 4 * (k : Int))) ∧ Below w.heap.size w w' :=
  (heldColumnS_any v 1 k w h (by omega) h1).mono fun e w' ⟨q1, q2⟩ => ⟨q1.trans (ret_int (by omega)), q2⟩
theorem markV_one (m : Int) (n : Nat) (hm : m = (n : Int)) (B : Nat) (v : Value) (l : List RVal) (w : World) (h : OwnR vEnc 3 25 B w v l) (h0 : 1 ≤ n) (h1 : n + 3 * l.length ≤ 9000000) :
    Calls Tryd.prog 39 #[v, .int .i64 m] w fun e w' => e = .returned (.int .i64 (m + 3 * (l.length : Int))) ∧ w.grownBy w' v.ownBlock ∧ OwnR vEnc 3 25 B w' v (markV n l.length) := by
  subst hm
  exact (markValueS_any B v l n w h h0 h1).mono fun e w' ⟨q1, q2, q3⟩ => ⟨q1.trans (ret_int (by omega)), q2, q3⟩
theorem heldV_one (v : Value) (k : Nat) (w : World) (h : Recs vEnc 3 w v (markV 1 k)) (h1 : 1 + 3 * k ≤ 9000000) :
    Calls Tryd.prog 40 #[v, .int .i64 1] w fun e w' => e = .returned (.int .i64 (1 + 3 * (k : Int))) ∧ Below w.heap.size w w' :=
  (heldValueS_any v 1 k w h (by omega) h1).mono fun e w' ⟨q1, q2⟩ => ⟨q1.trans (ret_int (by omega)), q2⟩
theorem markH_one (m : Int) (n : Nat) (hm : m = (n : Int)) (B : Nat) (v : Value) (l : List RChg) (w : World) (h : OwnR hEnc 6 29 B w v l) (h0 : 1 ≤ n) (h1 : n + 6 * l.length ≤ 9000000) :
    Calls Tryd.prog 45 #[v, .int .i64 m] w fun e w' => e = .returned (.int .i64 (m + 6 * (l.length : Int))) ∧ w.grownBy w' v.ownBlock ∧ OwnR hEnc 6 29 B w' v (markH n l.length) := by
  subst hm
  exact (markChangeS_any B v l n w h h0 h1).mono fun e w' ⟨q1, q2, q3⟩ => ⟨q1.trans (ret_int (by omega)), q2, q3⟩
end Go.Proofs.YtdijcdadcbhipaaDoor
