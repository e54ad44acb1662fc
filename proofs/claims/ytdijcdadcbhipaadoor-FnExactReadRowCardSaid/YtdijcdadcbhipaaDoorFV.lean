/-
  Which texts and values are valid: the program's and the specification's test.
-/
import Derived.Test.YtdijcdadcbhipaaDoorFR
import Derived.Test.YtdijcdadcbhipaaDoorName
import Derived.Test.YtdijcdadcbhipaaDoorFDec
set_option linter.all false
namespace Go.Proofs.YtdijcdadcbhipaaDoor
open Go.RowKit
def chB (c : UInt8) : Bool := decide ((32 : Int) ≤ (c.toNat : Int) ∧ (c.toNat : Int) ≤ 126)
def textB (s : ByteArray) : Bool := decide (s.size ≤ 12) && s.data.toList.all chB
theorem text_bad {s : ByteArray} {k : Nat} (h : k < s.size) (hb : ¬ ((32 : Int) ≤ (s[k].toNat : Int) ∧ (s[k].toNat : Int) ≤ 126)) : textB s = false := by
  unfold textB
  rw [all_bad s k h (by unfold chB; simpa using hb)]; simp
theorem text_len {s : ByteArray} (h : ¬ s.size ≤ 12) : textB s = false := by
  unfold textB; simp [h]
set_option maxHeartbeats 1000000 in
theorem ivalidText_any (s : ByteArray) (w : World) :
    Calls Tryd.prog 100 #[.string s] w fun e w' => e = .returned (.bool (textB s)) ∧ w = w' := by
  by_cases hlen : s.size ≤ 12
  · go_enter Tryd.func100, Tryd.ntmps100
    go_wp2_with fail
    go_loopg [3] s.size (fun gk s3 wr => w = wr ∧ ∃ k : Nat, k + gk = s.size ∧ s3 = .int .i64 (k : Int) ∧ (s.data.toList.take k).all chB = true)
    case atStart => exact ⟨rfl, 0, by omega, rfl, rfl⟩
    case round =>
      obtain ⟨rfl, k, hk, rfl, hall⟩ := hrel
      have HA := hide hall
      clear hall
      by_cases hlt : k < s.size
      · by_cases hc : (32 : Int) ≤ (s[k].toNat : Int) ∧ (s[k].toNat : Int) ≤ 126
        · have HC := hide hc
          obtain ⟨c1, c2⟩ := hc
          go_wp2_with fail
          go_roundg (gk - 1)
          case measure => omega
          case rel => exact ⟨rfl, k + 1, by omega, by go_num, by rw [all_snoc s k hlt, HA.out]; simp [chB, c1, c2]⟩
        · have HF := hide (text_bad hlt hc)
          by_cases c1 : (32 : Int) ≤ (s[k].toNat : Int)
          · have c2 : (126 : Int) < (s[k].toNat : Int) := by omega
            clear hc
            go_wp2_with fail
            go_ret
            exact ⟨ret_bool HF.out.symm, rfl⟩
          · have c2 : (s[k].toNat : Int) < 32 := by omega
            clear hc c1
            go_wp2_with fail
            go_ret
            exact ⟨ret_bool HF.out.symm, rfl⟩
      · have hks : k = s.size := by omega
        have HT : Hid (textB s = true) := by
          have := HA.out
          rw [hks, List.take_of_length_le (by simp)] at this
          unfold Hid textB; simp [this, hlen]
        clear HA hks
        go_wp2_with fail
        go_ret
        exact ⟨ret_bool HT.out.symm, rfl⟩
  · have HF := hide (text_len hlen)
    have h8 : 12 < s.size := by omega
    clear hlen
    go_enter Tryd.func100, Tryd.ntmps100
    go_wp2_with fail
    go_ret
    exact ⟨ret_bool HF.out.symm, rfl⟩
set_option maxHeartbeats 1000000 in
theorem svalidText_any (s : ByteArray) (w : World) (hsz : s.size ≤ 9223372036854775807) :
    Calls Tryd.prog 110 #[.string s] w fun e w' => e = .returned (.bool (textB s)) ∧ w = w' := by
  go_enter Tryd.func110, Tryd.ntmps110
  go_wp2_with fail
  go_loopg [3] s.size (fun gk s3 wr => w = wr ∧ ∃ k : Nat, k + gk = s.size ∧ s3 = .int .i64 (k : Int) ∧ (s.data.toList.take k).all chB = true)
  case atStart => exact ⟨rfl, 0, by omega, rfl, rfl⟩
  case round =>
    obtain ⟨rfl, k, hk, rfl, hall⟩ := hrel
    have HA := hide hall
    clear hall
    by_cases hlt : k < s.size
    · have h255 : (s[k].toNat : Int) ≤ 255 := by have := s[k].toNat_lt; omega
      have h0 : (0 : Int) ≤ (s[k].toNat : Int) := by omega
      by_cases hc : (32 : Int) ≤ (s[k].toNat : Int) ∧ (s[k].toNat : Int) ≤ 126
      · have HC := hide hc
        clear hc
        go_wp2_with fail
        refine (inRange_yes _ _ _ _ HC.out.1 HC.out.2).mono ?_
        rintro e w' ⟨rfl, rfl⟩
        go_wp2_with fail
        go_roundg (gk - 1)
        case measure => omega
        case rel => exact ⟨rfl, k + 1, by omega, by go_num, by rw [all_snoc s k hlt, HA.out]; simp [chB, HC.out]⟩
      · have HF := hide (text_bad hlt hc)
        have HC := hide hc
        clear hc
        go_wp2_with fail
        refine (inRange_no _ _ _ _ HC.out).mono ?_
        rintro e w' ⟨rfl, rfl⟩
        go_wp2_with fail
        go_ret
        exact ⟨ret_bool HF.out.symm, rfl⟩
    · have hks : k = s.size := by omega
      have HT : Hid (textB s = decide (s.size ≤ 12)) := by
        have := HA.out
        rw [hks, List.take_of_length_le (by simp)] at this
        unfold Hid textB; rw [this, Bool.and_true]
      clear HA hks
      have HT2 : Hid (decide ((s.size : Int) ≤ 12) = textB s) := by unfold Hid; rw [HT.out]; exact decide_eq_decide.2 (by omega)
      go_wp2_with fail
      go_ret
      exact ⟨ret_bool HT2.out, rfl⟩
def valB (v : RVal) : Bool :=
  if v.k = 0 then decide (v.n = 0) && v.s.toList.isEmpty else if v.k = 1 then decide (-999999 ≤ v.n ∧ v.n ≤ 999999) && v.s.toList.isEmpty else if v.k = 2 then decide (v.n = 0) && textB v.s else false
set_option maxHeartbeats 2000000 in
theorem ivalidValue_lit (k n : Int) (s : ByteArray) (w : World) :
    Calls Tryd.prog 74 #[.agg #[.int .i64 k, .int .i64 n, .string s]] w fun e w' => e = .returned (.bool (valB ⟨k, n, s⟩)) ∧ Below w.heap.size w w' := by
  obtain ⟨R, hR⟩ : ∃ R, R = valB ⟨k, n, s⟩ := ⟨_, rfl⟩
  rw [← hR]
  have HT := hide (ivalidText_any s)
  have HB := hide (below_box w (.cells #[.int .i64 k, .int .i64 n, .string s] 25))
  by_cases k0 : k = 0
  · subst k0
    by_cases n0 : n = 0
    · subst n0
      have HR : Hid (R = s.toList.isEmpty) := by unfold Hid; rw [hR]; simp [valB]
      clear hR HT
      go_enter Tryd.func74, Tryd.ntmps74
      go_wp2_with fail
      go_ret
      exact ⟨ret_bool HR.out.symm, HB.out⟩
    · have HR : Hid (R = false) := by unfold Hid; rw [hR]; simp [valB, n0]
      have n1 : (n == 0) = false := by simp [n0]
      clear hR HT
      go_enter Tryd.func74, Tryd.ntmps74
      go_wp2_with fail
      go_ret
      exact ⟨ret_bool HR.out.symm, HB.out⟩
  by_cases k1 : k = 1
  · subst k1
    by_cases n0 : -999999 ≤ n ∧ n ≤ 999999
    · have HR : Hid (R = s.toList.isEmpty) := by unfold Hid; rw [hR]; simp [valB, n0]
      obtain ⟨n1, n2⟩ := n0
      clear hR HT
      go_enter Tryd.func74, Tryd.ntmps74
      go_wp2_with fail
      go_ret
      exact ⟨ret_bool HR.out.symm, HB.out⟩
    · have HR : Hid (R = false) := by unfold Hid; rw [hR]; simp [valB]; omega
      clear hR HT
      by_cases n1 : -999999 ≤ n
      · have n2 : ¬ n ≤ 999999 := fun h => n0 ⟨n1, h⟩
        clear n0
        go_enter Tryd.func74, Tryd.ntmps74
        go_wp2_with fail
        go_ret
        exact ⟨ret_bool HR.out.symm, HB.out⟩
      · clear n0
        go_enter Tryd.func74, Tryd.ntmps74
        go_wp2_with fail
        go_ret
        exact ⟨ret_bool HR.out.symm, HB.out⟩
  have e0 : (k == 0) = false := by simp [k0]
  have e1 : (k == 1) = false := by simp [k1]
  by_cases k2 : k = 2
  · subst k2
    by_cases n0 : n = 0
    · subst n0
      have HR : Hid (R = textB s) := by unfold Hid; rw [hR]; simp [valB]
      clear hR
      go_enter Tryd.func74, Tryd.ntmps74
      go_wp2_with fail
      refine (HT.out _).mono ?_
      rintro e w' ⟨rfl, rfl⟩
      go_wp2_with fail
      go_ret
      exact ⟨ret_bool HR.out.symm, HB.out⟩
    · have HR : Hid (R = false) := by unfold Hid; rw [hR]; simp [valB, n0]
      have n1 : (n == 0) = false := by simp [n0]
      clear hR HT
      go_enter Tryd.func74, Tryd.ntmps74
      go_wp2_with fail
      go_ret
      exact ⟨ret_bool HR.out.symm, HB.out⟩
  · have e2 : (k == 2) = false := by simp [k2]
    have HR : Hid (R = false) := by unfold Hid; rw [hR]; simp [valB, k0, k1, k2]
    clear hR HT
    go_enter Tryd.func74, Tryd.ntmps74
    go_wp2_with fail
    go_ret
    exact ⟨ret_bool HR.out.symm, HB.out⟩
theorem ivalidValue_any (v : RVal) (w : World) :
    Calls Tryd.prog 74 #[(.agg #[.int .i64 v.k, .int .i64 v.n, .string v.s])] w fun e w' => e = .returned (.bool (valB v)) ∧ Below w.heap.size w w' := ivalidValue_lit v.k v.n v.s w
set_option maxHeartbeats 2000000 in
theorem svalidValue_lit (k n : Int) (s : ByteArray) (w : World) (hs : s.size ≤ 9223372036854775807) :
    Calls Tryd.prog 105 #[.agg #[.int .i64 k, .int .i64 n, .string s]] w fun e w' => e = .returned (.bool (valB ⟨k, n, s⟩)) ∧ Below w.heap.size w w' := by
  obtain ⟨R, hR⟩ : ∃ R, R = valB ⟨k, n, s⟩ := ⟨_, rfl⟩
  rw [← hR]
  have HT := hide (fun w => svalidText_any s w hs)
  have HB := hide (below_box w (.cells #[.int .i64 k, .int .i64 n, .string s] 25))
  by_cases k0 : k = 0
  · subst k0
    by_cases n0 : n = 0
    · subst n0
      have HR : Hid (R = s.toList.isEmpty) := by unfold Hid; rw [hR]; simp [valB]
      clear hR HT
      go_enter Tryd.func105, Tryd.ntmps105
      go_wp2_with fail
      go_ret
      exact ⟨ret_bool HR.out.symm, HB.out⟩
    · have HR : Hid (R = false) := by unfold Hid; rw [hR]; simp [valB, n0]
      have n1 : (n == 0) = false := by simp [n0]
      clear hR HT
      go_enter Tryd.func105, Tryd.ntmps105
      go_wp2_with fail
      go_ret
      exact ⟨ret_bool HR.out.symm, HB.out⟩
  by_cases k1 : k = 1
  · subst k1
    by_cases n0 : -999999 ≤ n ∧ n ≤ 999999
    · have HR : Hid (R = s.toList.isEmpty) := by unfold Hid; rw [hR]; simp [valB, n0]
      have HI := hide n0
      clear hR HT n0
      go_enter Tryd.func105, Tryd.ntmps105
      go_wp2_with fail
      refine (inRange_yes _ _ _ _ HI.out.1 HI.out.2).mono ?_
      rintro e w' ⟨rfl, rfl⟩
      go_wp2_with fail
      go_ret
      exact ⟨ret_bool HR.out.symm, HB.out⟩
    · have HR : Hid (R = false) := by unfold Hid; rw [hR]; simp [valB]; omega
      clear hR HT
      have HI := hide n0
      clear n0
      go_enter Tryd.func105, Tryd.ntmps105
      go_wp2_with fail
      refine (inRange_no _ _ _ _ HI.out).mono ?_
      rintro e w' ⟨rfl, rfl⟩
      go_wp2_with fail
      go_ret
      exact ⟨ret_bool HR.out.symm, HB.out⟩
  have e0 : (k == 0) = false := by simp [k0]
  have e1 : (k == 1) = false := by simp [k1]
  by_cases k2 : k = 2
  · subst k2
    by_cases n0 : n = 0
    · subst n0
      have HR : Hid (R = textB s) := by unfold Hid; rw [hR]; simp [valB]
      clear hR
      go_enter Tryd.func105, Tryd.ntmps105
      go_wp2_with fail
      refine (HT.out _).mono ?_
      rintro e w' ⟨rfl, rfl⟩
      go_wp2_with fail
      go_ret
      exact ⟨ret_bool HR.out.symm, HB.out⟩
    · have HR : Hid (R = false) := by unfold Hid; rw [hR]; simp [valB, n0]
      have n1 : (n == 0) = false := by simp [n0]
      clear hR HT
      go_enter Tryd.func105, Tryd.ntmps105
      go_wp2_with fail
      go_ret
      exact ⟨ret_bool HR.out.symm, HB.out⟩
  · have e2 : (k == 2) = false := by simp [k2]
    have HR : Hid (R = false) := by unfold Hid; rw [hR]; simp [valB, k0, k1, k2]
    clear hR HT
    go_enter Tryd.func105, Tryd.ntmps105
    go_wp2_with fail
    go_ret
    exact ⟨ret_bool HR.out.symm, HB.out⟩
theorem svalidValue_any (v : RVal) (w : World) (hv : okV v) :
    Calls Tryd.prog 105 #[(.agg #[.int .i64 v.k, .int .i64 v.n, .string v.s])] w fun e w' => e = .returned (.bool (valB v)) ∧ Below w.heap.size w w' := svalidValue_lit v.k v.n v.s w hv
end Go.Proofs.YtdijcdadcbhipaaDoor
