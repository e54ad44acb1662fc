/-
  validName of the program and of the reference: 1 to 8 letters from a to z.
-/
import Derived.Test.YteikeljklfblmaaBase
import Derived.Test.YteikeljklfblmaaRows
import Derived.Test.YteikeljklfblmaaReader
import Derived.Deep.LoopGhost
set_option linter.all false
namespace Go.Proofs.Yteikeljklfblmaa
open Go.RowKit
theorem inRange_yes (n l h : Int) (w : World) (h1 : l ≤ n) (h2 : n ≤ h) :
    Calls Try.prog 53 #[.int .i64 n, .int .i64 l, .int .i64 h] w fun e w' => e = .returned (.bool true) ∧ w = w' :=
  (inRange_any n l h w).mono fun e w' ⟨he, hw⟩ => ⟨by rw [he, decide_eq_true ⟨h1, h2⟩], hw⟩
theorem inRange_no (n l h : Int) (w : World) (hn : ¬ (l ≤ n ∧ n ≤ h)) :
    Calls Try.prog 53 #[.int .i64 n, .int .i64 l, .int .i64 h] w fun e w' => e = .returned (.bool false) ∧ w = w' :=
  (inRange_any n l h w).mono fun e w' ⟨he, hw⟩ => ⟨by rw [he, decide_eq_false hn], hw⟩
/-- a letter from a to z -/
def letB (c : UInt8) : Bool := decide ((97 : Int) ≤ (c.toNat : Int) ∧ (c.toNat : Int) ≤ 122)
def nameB (s : ByteArray) : Bool := decide (1 ≤ s.size ∧ s.size ≤ 8) && s.data.toList.all letB
theorem take_snoc (s : ByteArray) (k : Nat) (h : k < s.size) : s.data.toList.take (k + 1) = s.data.toList.take k ++ [s[k]] := by
  rw [List.take_succ_eq_append_getElem (by simpa using h)]; rfl
theorem all_snoc {p : UInt8 → Bool} (s : ByteArray) (k : Nat) (h : k < s.size) : (s.data.toList.take (k + 1)).all p = ((s.data.toList.take k).all p && p s[k]) := by
  rw [take_snoc s k h]; simp
theorem all_bad {p : UInt8 → Bool} (s : ByteArray) (k : Nat) (h : k < s.size) (hb : p s[k] = false) : s.data.toList.all p = false := by
  rw [List.all_eq_false]
  exact ⟨s[k], by rw [ByteArray.getElem_eq_getElem_data]; simp, by simpa using hb⟩
theorem name_bad {s : ByteArray} {k : Nat} (h : k < s.size) (hb : ¬ ((97 : Int) ≤ (s[k].toNat : Int) ∧ (s[k].toNat : Int) ≤ 122)) : nameB s = false := by
  unfold nameB
  rw [all_bad s k h (by unfold letB; simpa using hb)]; simp
theorem name_len {s : ByteArray} (h : ¬ (1 ≤ s.size ∧ s.size ≤ 8)) : nameB s = false := by
  unfold nameB; simp [h]
set_option maxHeartbeats 1000000 in
theorem ivalidName_any (s : ByteArray) (w : World) :
    Calls Try.prog 40 #[.string s] w fun e w' => e = .returned (.bool (nameB s)) ∧ w = w' := by
  by_cases hlen : 1 ≤ s.size ∧ s.size ≤ 8
  · obtain ⟨h1, h8⟩ := hlen
    go_enter Try.func40, Try.ntmps40
    go_wp2_with fail
    go_loopg [3] s.size (fun gk s3 wr => w = wr ∧ ∃ k : Nat, k + gk = s.size ∧ s3 = .int .i64 (k : Int) ∧ (s.data.toList.take k).all letB = true)
    case atStart => exact ⟨rfl, 0, by omega, rfl, rfl⟩
    case round =>
      obtain ⟨rfl, k, hk, rfl, hall⟩ := hrel
      have HA := hide hall
      clear hall
      by_cases hlt : k < s.size
      · by_cases hc : (97 : Int) ≤ (s[k].toNat : Int) ∧ (s[k].toNat : Int) ≤ 122
        · have HC := hide hc
          obtain ⟨c1, c2⟩ := hc
          go_wp2_with fail
          go_roundg (gk - 1)
          case measure => omega
          case rel => exact ⟨rfl, k + 1, by omega, by go_num, by rw [all_snoc s k hlt, HA.out]; simp [letB, c1, c2]⟩
        · have HF := hide (name_bad hlt hc)
          by_cases c1 : (97 : Int) ≤ (s[k].toNat : Int)
          · have c2 : (122 : Int) < (s[k].toNat : Int) := by omega
            clear hc
            go_wp2_with fail
            go_ret
            exact ⟨ret_bool HF.out.symm, rfl⟩
          · have c2 : (s[k].toNat : Int) < 97 := by omega
            clear hc c1
            go_wp2_with fail
            go_ret
            exact ⟨ret_bool HF.out.symm, rfl⟩
      · have hks : k = s.size := by omega
        have HT : Hid (nameB s = true) := by
          have := HA.out
          rw [hks, List.take_of_length_le (by simp)] at this
          unfold Hid nameB; simp [this, h1, h8]
        clear HA hks
        go_wp2_with fail
        go_ret
        exact ⟨ret_bool HT.out.symm, rfl⟩
  · have HF := hide (name_len hlen)
    by_cases h1 : s.size < 1
    · go_enter Try.func40, Try.ntmps40
      go_wp2_with fail
      go_ret
      exact ⟨ret_bool HF.out.symm, rfl⟩
    · have h8 : 8 < s.size := by omega
      clear hlen
      go_enter Try.func40, Try.ntmps40
      go_wp2_with fail
      go_ret
      exact ⟨ret_bool HF.out.symm, rfl⟩
set_option maxHeartbeats 1000000 in
theorem svalidName_any (s : ByteArray) (w : World) (hsz : s.size ≤ 9223372036854775807) :
    Calls Try.prog 57 #[.string s] w fun e w' => e = .returned (.bool (nameB s)) ∧ w = w' := by
  go_enter Try.func57, Try.ntmps57
  go_wp2_with fail
  go_loopg [3] s.size (fun gk s3 wr => w = wr ∧ ∃ k : Nat, k + gk = s.size ∧ s3 = .int .i64 (k : Int) ∧ (s.data.toList.take k).all letB = true)
  case atStart => exact ⟨rfl, 0, by omega, rfl, rfl⟩
  case round =>
    obtain ⟨rfl, k, hk, rfl, hall⟩ := hrel
    have HA := hide hall
    clear hall
    by_cases hlt : k < s.size
    · have h255 : (s[k].toNat : Int) ≤ 255 := by have := s[k].toNat_lt; omega
      have h0 : (0 : Int) ≤ (s[k].toNat : Int) := by omega
      by_cases hc : (97 : Int) ≤ (s[k].toNat : Int) ∧ (s[k].toNat : Int) ≤ 122
      · have HC := hide hc
        clear hc
        go_wp2_with fail
        refine (inRange_yes _ _ _ _ HC.out.1 HC.out.2).mono ?_
        rintro e w' ⟨rfl, rfl⟩
        go_wp2_with fail
        go_roundg (gk - 1)
        case measure => omega
        case rel => exact ⟨rfl, k + 1, by omega, by go_num, by rw [all_snoc s k hlt, HA.out]; simp [letB, HC.out]⟩
      · have HF := hide (name_bad hlt hc)
        have HC := hide hc
        clear hc
        go_wp2_with fail
        refine (inRange_no _ _ _ _ HC.out).mono ?_
        rintro e w' ⟨rfl, rfl⟩
        go_wp2_with fail
        go_ret
        exact ⟨ret_bool HF.out.symm, rfl⟩
    · have hks : k = s.size := by omega
      have HT : Hid (nameB s = decide (1 ≤ s.size ∧ s.size ≤ 8)) := by
        have := HA.out
        rw [hks, List.take_of_length_le (by simp)] at this
        unfold Hid nameB; rw [this, Bool.and_true]
      clear HA hks
      by_cases hz : 1 ≤ s.size ∧ s.size ≤ 8
      · have HT2 : Hid (nameB s = true) := by unfold Hid; rw [HT.out]; exact decide_eq_true hz
        have hz' : (1 : Int) ≤ (s.size : Int) ∧ (s.size : Int) ≤ 8 := by omega
        have HZ := hide hz'
        clear hz hz'
        go_wp2_with fail
        refine (inRange_yes _ _ _ _ HZ.out.1 HZ.out.2).mono ?_
        rintro e w' ⟨rfl, rfl⟩
        go_wp2_with fail
        go_ret
        exact ⟨ret_bool HT2.out.symm, rfl⟩
      · have HT2 : Hid (nameB s = false) := by unfold Hid; rw [HT.out]; exact decide_eq_false hz
        have hz' : ¬ ((1 : Int) ≤ (s.size : Int) ∧ (s.size : Int) ≤ 8) := by omega
        have HZ := hide hz'
        clear hz hz'
        go_wp2_with fail
        refine (inRange_no _ _ _ _ HZ.out).mono ?_
        rintro e w' ⟨rfl, rfl⟩
        go_wp2_with fail
        go_ret
        exact ⟨ret_bool HT2.out.symm, rfl⟩
end Go.Proofs.Yteikeljklfblmaa
