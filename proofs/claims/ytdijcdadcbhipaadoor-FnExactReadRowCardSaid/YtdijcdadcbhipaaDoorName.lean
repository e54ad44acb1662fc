/-
  validName of the program and of the reference: 1 to 8 letters from a to z.
-/
import Derived.Test.YtdijcdadcbhipaaDoorBase
import Derived.Test.YtdijcdadcbhipaaDoorRows
import Derived.Test.YtdijcdadcbhipaaDoorReader
import Derived.Deep.LoopGhost
set_option linter.all false
namespace Go.Proofs.YtdijcdadcbhipaaDoor
open Go.RowKit
theorem inRange_yes (n l h : Int) (w : World) (h1 : l ≤ n) (h2 : n ≤ h) :
    Calls Tryd.prog 83 #[.int .i64 n, .int .i64 l, .int .i64 h] w fun e w' => e = .returned (.bool true) ∧ w = w' :=
  (inRange_any n l h w).mono fun e w' ⟨he, hw⟩ => ⟨by rw [he, decide_eq_true ⟨h1, h2⟩], hw⟩
theorem inRange_no (n l h : Int) (w : World) (hn : ¬ (l ≤ n ∧ n ≤ h)) :
    Calls Tryd.prog 83 #[.int .i64 n, .int .i64 l, .int .i64 h] w fun e w' => e = .returned (.bool false) ∧ w = w' :=
  (inRange_any n l h w).mono fun e w' ⟨he, hw⟩ => ⟨by rw [he, decide_eq_false hn], hw⟩
/-- a letter from a to z -/
def letB (c : UInt8) : Bool := decide ((97 : Int) ≤ (c.toNat : Int) ∧ (c.toNat : Int) ≤ 122)
def nameB (s : ByteArray) : Bool := decide (1 ≤ s.size ∧ s.size ≤ 8) && s.data.toList.all letB
theorem take_snoc (s : ByteArray) (k : Nat) (h : k < s.size) : s.data.toList.take (k + 1) = s.data.toList.take k ++ [s[k]] := by
  rw [List.take_succ_eq_append_getElem (by simpa using h)]; rfl
theorem all_snoc {p : UInt8 → Bool} (s : ByteArray) (k : Nat) (h : k < s.size) : (s.data.toList.take (k + 1)).all p = ((s.data.toList.take k).all p && p s[k]) := by
  rw [take_snoc s k h]; simp
theorem all_bad {p : UInt8 → Bool} (s : ByteArray) (k : Nat) (h : k < s.size) (hb : p s[k] = false) : s.data.toList.all p = false := by
  rw [List.all_eq_false]
  exact ⟨s[k], by rw [ByteArray.getElem_eq_getElem_data]; simp, by simpa using hb⟩
theorem name_bad {s : ByteArray} {k : Nat} (h : k < s.size) (hb : ¬ ((97 : Int) ≤ (s[k].toNat : Int) ∧ (s[k].toNat : Int) ≤ 122)) : nameB s = false := by
  unfold nameB
  rw [all_bad s k h (by unfold letB; simpa using hb)]; simp
theorem name_len {s : ByteArray} (h : ¬ (1 ≤ s.size ∧ s.size ≤ 8)) : nameB s = false := by
  unfold nameB; simp [h]
end Go.Proofs.YtdijcdadcbhipaaDoor
