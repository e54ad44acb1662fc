/-
  slices.Clone at items.
-/
import Derived.Test.YtmlphdniiiijpaaInsI
set_option linter.all false
namespace Go.Proofs.Ytmlphdniiiijpaa
open Go.RowKit
theorem itmCells_one (l : List Itm) : ∀ u ∈ itmCells l, u.oneCell' = true := by
  intro u hu
  obtain ⟨e, -, he⟩ := List.mem_flatMap.1 hu
  simp at he
  rcases he with rfl | rfl <;> rfl
theorem itms_news {w : World} {b off : Nat} {l : List Itm} (h : ∀ i (h : i < l.length), ItmAt w b (off + i * 2) l[i]) : ∀ j u, (itmCells l)[j]? = some u → w.cell? ⟨b, off + j, none⟩ = some u := by
  intro j u hu
  have hj : j < l.length * 2 := by rw [← itmCells_len]; exact (List.getElem?_eq_some_iff.1 hu).1
  obtain ⟨i, hi⟩ : ∃ i, j = i * 2 ∨ j = i * 2 + 1 := ⟨j / 2, by omega⟩
  obtain ⟨c0, c1⟩ := h i (by omega)
  obtain ⟨e0, e1⟩ := itmCells_at l i (by omega)
  rcases hi with rfl | rfl
  · rw [← hu, e0]; exact c0
  · rw [← hu, e1]; exact c1
set_option maxHeartbeats 2000000 in
theorem cloneINil_any (n c : Nat) (w : World) :
    Calls Try.prog 43 #[.slice none n c] w fun e w' => e = .returned (.slice none 0 0) ∧ w' = w := by
  have q22 : ∀ (w : World) (a : Option Addr) (n c n' c' : Nat), (binOp .eql 28 (.slice a n c) (.slice none n' c')).run Try.prog w = .ok (.bool a.isNone) w := fun w a n c n' c' => Lib.run_eql_slice_nil w _ _ a n c n' c' Try.underlying28
  go_enter Try.func43, Try.ntmps43
  go_wp2_with fail
  go_ret
  exact ⟨rfl, rfl⟩
/-- what a call that returns new items hands back -/
def ItRet (w : World) (l : List Itm) (e : Ending) (w' : World) : Prop := ∃ v', e = .returned v' ∧ OwnI w.heap.size w' v' l ∧ Below w.heap.size w w'
set_option maxHeartbeats 2000000 in
theorem cloneI_any (v : Value) (l : List Itm) (w : World) (h : Itms w v l) (hn : l.length ≤ 1048576) :
    Calls Try.prog 43 #[v] w (ItRet w l) := by
  obtain ⟨a, cap, rfl, hl, hcap, hd⟩ := h
  have hnews : ∃ ad, (a = none ∧ l = []) ∨ (a = some ad ∧ ∀ j u, (itmCells l)[j]? = some u → w.cell? (ad.add j) = some u) := by
    rcases hd with rfl | ⟨b, off, rfl, -, hc⟩
    · cases a with
      | none => exact ⟨⟨0, 0, none⟩, .inl ⟨rfl, rfl⟩⟩
      | some x => exact ⟨x, .inr ⟨rfl, fun j u hu => by simp [itmCells] at hu⟩⟩
    · exact ⟨⟨b, off, none⟩, .inr ⟨rfl, fun j u hu => by rw [Addr.add_lit]; exact itms_news hc j u hu⟩⟩
  obtain ⟨ad, ⟨rfl, rfl⟩ | ⟨rfl, hnews⟩⟩ := hnews
  · refine (cloneINil_any _ _ w).mono ?_
    rintro e w' ⟨rfl, rfl⟩
    exact ⟨_, rfl, World.ownsRow_nil _ _ _ _, Below.refl _ _⟩
  · have HN := hide hnews
    clear hnews hd
    have q22 : ∀ (w : World) (a : Option Addr) (n c n' c' : Nat), (binOp .eql 28 (.slice a n c) (.slice none n' c')).run Try.prog w = .ok (.bool a.isNone) w := fun w a n c n' c' => Lib.run_eql_slice_nil w _ _ a n c n' c' Try.underlying28
    obtain ⟨i0, hi, hz0, hz1, hz2⟩ := info_parts infoI
    go_enter Try.func43, Try.ntmps43
    go_wp2_with (at_builtin; refine wpList_append_own _ rfl _ _ 28 rfl w.heap.size 38 i0 _ 2 16 Try.underlying28 hi hz0 hz1 hz2 rfl (by decide) _ _ _ rfl (World.ownsRow_made w #[] 0 (Nat.le_refl _) (Nat.zero_le _) (by simp)) ad l.length cap (itmCells l) rfl ?qc1 ?qc2 ?qc3 ?qc4 ?qc5 ?qc6 ?_)
    case qc1 => exact itmCells_len l
    case qc2 =>
      intro j u hj
      exact Lib.cell?_alloc_some _ (HN.out j u hj)
    case qc3 => exact itmCells_one l
    case qc4 => unfold maxLen; omega
    case qc5 => omega
    case qc6 => simp
    intro v' w1 hown hgrow hnil
    clear hnil
    have HO := hide hown
    have HB : Hid (Below w.heap.size w w1) := ((Below.refl _ w).alloc (Nat.le_refl _) _).grown hgrow (by simp) (by intro k hk; simp [Value.ownBlock] at hk; omega)
    clear hown hgrow
    go_wp2_with fail
    go_ret
    refine ⟨v', rfl, ?_, HB.out⟩
    first
    | exact HO.out
    | (have := HO.out; simp at this; exact this)
end Go.Proofs.Ytmlphdniiiijpaa
