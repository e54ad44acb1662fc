/-
  slices.Clone at entries: the same entries in new memory.
-/
import Derived.Test.YteikeljklfblmaaHeld
import Derived.Lib.SliceRun
set_option linter.all false
namespace Go.Proofs.Yteikeljklfblmaa
open Go.RowKit
theorem addr_add (b o j : Nat) : (⟨b, o, none⟩ : Addr).add j = ⟨b, o + j, none⟩ := by unfold Addr.add; split <;> simp_all
theorem entCells_get (l : List Ent) (j : Nat) (hj : j < l.length * 3) : ∃ i, ∃ h : i < l.length, (j = i * 3 ∧ (entCells l)[j]? = some (.string l[i].n)) ∨ (j = i * 3 + 1 ∧ (entCells l)[j]? = some (.string l[i].t)) ∨ (j = i * 3 + 2 ∧ (entCells l)[j]? = some (.int .i64 l[i].s)) := by
  refine ⟨j / 3, by omega, ?_⟩
  obtain ⟨h0, h1, h2⟩ := entCells_at l (j / 3) (by omega)
  have : j % 3 = 0 ∨ j % 3 = 1 ∨ j % 3 = 2 := by omega
  rcases this with h | h | h
  · have e : j = j / 3 * 3 := by omega
    exact .inl ⟨e, by rw [← e] at h0; exact h0⟩
  · have e : j = j / 3 * 3 + 1 := by omega
    exact .inr (.inl ⟨e, by rw [← e] at h1; exact h1⟩)
  · have e : j = j / 3 * 3 + 2 := by omega
    exact .inr (.inr ⟨e, by rw [← e] at h2; exact h2⟩)
theorem ents_news {w : World} {b off : Nat} {l : List Ent} (h : ∀ i (h : i < l.length), EntAt w b (off + i * 3) l[i]) : ∀ j u, (entCells l)[j]? = some u → w.cell? ⟨b, off + j, none⟩ = some u := by
  intro j u hu
  have hj : j < l.length * 3 := by rw [← entCells_len]; exact (List.getElem?_eq_some_iff.1 hu).1
  obtain ⟨i, hi, h3⟩ := entCells_get l j hj
  obtain ⟨c0, c1, c2, -⟩ := h i hi
  rcases h3 with ⟨rfl, h4⟩ | ⟨rfl, h4⟩ | ⟨rfl, h4⟩
  · rw [← hu, h4]; exact c0
  · rw [← hu, h4]; exact c1
  · rw [← hu, h4]; exact c2
theorem entCells_one (l : List Ent) : ∀ u ∈ entCells l, u.oneCell' = true := by
  intro u hu
  obtain ⟨e, -, he⟩ := List.mem_flatMap.1 hu
  simp at he
  rcases he with rfl | rfl | rfl <;> rfl
set_option maxHeartbeats 2000000 in
theorem cloneNil_any (n c : Nat) (w : World) :
    Calls Try.prog 52 #[.slice none n c] w fun e w' => e = .returned (.slice none 0 0) ∧ w' = w := by
  have q22 : ∀ (w : World) (a : Option Addr) (n c n' c' : Nat), (binOp .eql 23 (.slice a n c) (.slice none n' c')).run Try.prog w = .ok (.bool a.isNone) w := fun w a n c n' c' => Lib.run_eql_slice_nil w _ _ a n c n' c' Try.underlying23
  go_enter Try.func52, Try.ntmps52
  go_wp2_with fail
  go_ret
  exact ⟨rfl, rfl⟩
set_option maxHeartbeats 2000000 in
theorem clone_any (v : Value) (l : List Ent) (w : World) (h : Ents w v l) (hn : l.length ≤ 1048576) :
    Calls Try.prog 52 #[v] w fun e w' => ∃ v', e = .returned v' ∧ OwnE w.heap.size w' v' l ∧ Below w.heap.size w w' := by
  obtain ⟨a, cap, rfl, hl, hcap, hd⟩ := h
  have hnews : ∃ ad, (a = none ∧ l = []) ∨ (a = some ad ∧ ∀ j u, (entCells l)[j]? = some u → w.cell? (ad.add j) = some u) := by
    rcases hd with rfl | ⟨b, off, rfl, -, hc⟩
    · cases a with
      | none => exact ⟨⟨0, 0, none⟩, .inl ⟨rfl, rfl⟩⟩
      | some x => exact ⟨x, .inr ⟨rfl, fun j u hu => by simp [entCells] at hu⟩⟩
    · exact ⟨⟨b, off, none⟩, .inr ⟨rfl, fun j u hu => by rw [addr_add]; exact ents_news hc j u hu⟩⟩
  obtain ⟨ad, ⟨rfl, rfl⟩ | ⟨rfl, hnews⟩⟩ := hnews
  · refine (cloneNil_any _ _ w).mono ?_
    rintro e w' ⟨rfl, rfl⟩
    exact ⟨_, rfl, World.ownsRow_nil _ _ _ _, Below.refl _ _⟩
  · have HN := hide hnews
    clear hnews hd
    have q22 : ∀ (w : World) (a : Option Addr) (n c n' c' : Nat), (binOp .eql 23 (.slice a n c) (.slice none n' c')).run Try.prog w = .ok (.bool a.isNone) w := fun w a n c n' c' => Lib.run_eql_slice_nil w _ _ a n c n' c' Try.underlying23
    obtain ⟨i0, hi, hz0, hz1, hz2⟩ := info_parts infoE
    go_enter Try.func52, Try.ntmps52
    go_wp2_with (at_builtin; refine wpList_append_own _ rfl _ _ 23 rfl w.heap.size 27 i0 _ 3 40 Try.underlying23 hi hz0 hz1 hz2 rfl (by decide) _ _ _ rfl (World.ownsRow_made w #[] 0 (Nat.le_refl _) (Nat.zero_le _) (by simp)) ad l.length cap (entCells l) rfl ?qc1 ?qc2 ?qc3 ?qc4 ?qc5 ?qc6 ?_)
    case qc1 => exact entCells_len l
    case qc2 =>
      intro j u hj
      exact Lib.cell?_alloc_some _ (HN.out j u hj)
    case qc3 => exact entCells_one l
    case qc4 => unfold maxLen; omega
    case qc5 => omega
    case qc6 => simp
    intro v' w1 hown hgrow hnil
    clear hnil
    have HO := hide hown
    have HB : Hid (Below w.heap.size w w1) := ((Below.refl _ w).alloc (Nat.le_refl _) _).grown hgrow (by simp) (by intro k hk; simp [Value.ownBlock] at hk; omega)
    clear hown hgrow
    go_wp2_with fail
    go_ret
    refine ⟨v', rfl, ?_, HB.out⟩
    first
    | exact HO.out
    | (have := HO.out; simp at this; exact this)
end Go.Proofs.Yteikeljklfblmaa
