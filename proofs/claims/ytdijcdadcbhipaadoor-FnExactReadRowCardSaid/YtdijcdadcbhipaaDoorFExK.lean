/-
  What the exact walks of ChainOf and ReadRow share.
-/
import Derived.Test.YtdijcdadcbhipaaDoorFSS
set_option linter.all false
namespace Go.Proofs.YtdijcdadcbhipaaDoor
open Go.RowKit
def OwnHx (B : Nat) (w : World) (v : Value) (l : List RChg) : Prop := OwnR hEnc 6 29 B w v l
theorem OwnHx.toRx {B : Nat} {w : World} {v : Value} {l : List RChg} (h : OwnHx B w v l) : OwnR hEnc 6 29 B w v l := h
theorem OwnC.toRx {B : Nat} {w : World} {v : Value} {l : List RCol} (h : OwnC B w v l) : OwnR cEnc 4 27 B w v l := h
theorem OwnV.toRx {B : Nat} {w : World} {v : Value} {l : List RVal} (h : OwnV B w v l) : OwnR vEnc 3 25 B w v l := h
theorem OwnHx.recs {B : Nat} {w : World} {v : Value} {l : List RChg} (h : OwnHx B w v l) : Recs hEnc 6 w v l := OwnR.recs hEnc_len h
theorem OwnHx.keep {B : Nat} {w w' : World} {v : Value} {l : List RChg} (h : OwnHx B w v l) (hb : Below w.heap.size w w') : OwnHx B w' v l := OwnR.keep h hb
/-- a store into a block ahead of the row and its leaves -/
theorem OwnL.lowBy {B : Nat} {w w' : World} {row : Option Nat} {v : Value} {fs : List (List RCol)} (h : OwnL B w v fs) (hg : w.grownBy w' row) (hk : ∀ j, row = some j → j < B) : OwnL B w' v fs := by
  obtain ⟨xs, ho, hx, ha⟩ := h
  have hn : ∀ {size n : Nat} {e : TypeId} {v : Value} {xs : List Value}, w.ownsRow B e size v n xs → w'.ownsRow B e size v n xs := fun {size n e v xs} h => World.ownsRow.kept h hg (by
    cases hv : v.ownBlock with
    | none => exact .inl rfl
    | some j => exact .inr (fun e => by have h1 := (World.ownsRow.lt h j hv).1; have h2 := hk j e.symm; omega))
  exact ⟨xs, hn ho, hx.map fun _ _ _ _ ho => hn ho, ha⟩
theorem markL_one (m : Int) (n : Nat) (hm : m = (n : Int)) (B : Nat) (v : Value) (L : List (List RCol)) (w : World) (h : OwnL B w v L) (hB : B ≤ w.heap.size) (h0 : 1 ≤ n) (h1 : n + 4 * totL L ≤ 9000000) :
    Calls Tryd.prog 46 #[v, .int .i64 m] w fun e w' => e = .returned (.int .i64 (m + 4 * (totL L : Int))) ∧ Below B w w' ∧ OwnL B w' v (markL n L) := by
  subst hm
  exact (markColumnSS_any B v L n w h hB h0 h1).mono fun e w' ⟨q1, q2, q3⟩ => ⟨q1.trans (ret_int (by omega)), q2, q3⟩
theorem heldL_one (v : Value) (L : List (List RCol)) (w : World) (h : Lvs w v (markL 1 L)) (h1 : 1 + 4 * totL L ≤ 9000000) :
    Calls Tryd.prog 47 #[v, .int .i64 1] w fun e w' => e = .returned (.int .i64 (1 + 4 * (totL L : Int))) ∧ Below w.heap.size w w' :=
  (heldColumnSS_any v L 1 w h (by omega) h1).mono fun e w' ⟨q1, q2⟩ => ⟨q1.trans (ret_int (by omega)), q2⟩
theorem totL_le {L : List (List RCol)} (h : ∀ (k : Nat) (hk : k < L.length), (L[k]).length ≤ 5) : totL L ≤ 5 * L.length := by
  induction L with
  | nil => simp [totL]
  | cons f r ih =>
    have h0 := h 0 (by simp)
    have h1 := ih (fun k hk => by have := h (k + 1) (by simp; omega); simpa using this)
    simp only [totL, List.length_cons, List.getElem_cons_zero] at *
    omega
theorem chain_tot {f : List RCol} {cs : List RChg} : totL ((chainL f cs).getD []) ≤ 45 := by
  cases h : chainL f cs with
  | none => simp [totL]
  | some L =>
    have h1 := chain_len h
    have h2 := (chain_of h).2.1
    have := totL_le (L := L) (fun k hk => (fmt_len2 (chain_fmt h k hk)).2.1)
    simp only [Option.getD_some]
    omega
theorem LRet.uni {w w' : World} {o : Option (List (List RCol))} {e : Ending} (h : LRet w o e w') : ∃ v', e = .returned (.tuple #[v', .bool o.isSome]) ∧ OwnL w.heap.size w' v' (o.getD []) ∧ Below w.heap.size w w' := by
  obtain ⟨hb, hq⟩ := h
  cases o with
  | none => exact ⟨_, hq, OwnL.nil _ _, hb⟩
  | some g =>
    obtain ⟨v', h1, h2⟩ := hq
    exact ⟨v', h1, h2, hb⟩
theorem RRet.unix {w w' : World} {o : Option (List RVal)} {e : Ending} (h : RRet w o e w') : ∃ v', e = .returned (.tuple #[v', .bool o.isSome]) ∧ OwnV w.heap.size w' v' (o.getD []) ∧ Below w.heap.size w w' := by
  obtain ⟨hb, hq⟩ := h
  cases o with
  | none => exact ⟨_, hq, World.ownsRow_nil _ _ _ _, hb⟩
  | some g =>
    obtain ⟨v', h1, h2⟩ := hq
    exact ⟨v', h1, h2, hb⟩
theorem read_len {f : List RCol} {cs : List RChg} {i j : Int} {r : List RVal} : ((readL f cs i j r).getD []).length ≤ 5 := by
  cases h : readL f cs i j r with
  | none => simp
  | some g =>
    obtain ⟨L, hL, h0, h1, h2, h3, rfl⟩ := readL_some h
    have hl := chain_len hL
    have ha : i.toNat < L.length := by omega
    rw [List.getElem?_eq_getElem ha] at h3
    exact (fit_of (adv_fit hL i.toNat r ha h3 (j.toNat - i.toNat) (by omega))).2.1
end Go.Proofs.YtdijcdadcbhipaaDoor
