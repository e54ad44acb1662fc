/-
  markText: the text of a mark is a function of its number.
-/
import Derived.Test.YteikeljklfblmaaCat4
import Derived.Laws.IdiomStrings
set_option linter.all false
namespace Go.Proofs.Yteikeljklfblmaa
open Go.RowKit
/-- the digits of a number ahead of a text -/
def mkD (n : Nat) (s : ByteArray) : ByteArray := if h : n = 0 then s else mkD (n / 10) (⟨#[UInt8.ofNat (48 + n % 10)]⟩ ++ s)
termination_by n
decreasing_by omega
theorem mkD_zero (s : ByteArray) : mkD 0 s = s := by rw [mkD]; simp
theorem mkD_step {n : Nat} (h : n ≠ 0) (s : ByteArray) : mkD n s = mkD (n / 10) (⟨#[UInt8.ofNat (48 + n % 10)]⟩ ++ s) := by rw [mkD, dif_neg h]
theorem conv_dig (m : Nat) (W : World) : (convert 22 9 (.slice (some ⟨W.heap.size, 0, none⟩) 1 1)).run Try.prog (W.alloc (.cells #[.int .u8 (48 + (m : Int) % 10)] 5)) = .ok (.string ⟨#[UInt8.ofNat (48 + m % 10)]⟩) (W.alloc (.cells #[.int .u8 (48 + (m : Int) % 10)] 5)) := by
  refine run_convert_bytes_back _ _ _ 5 ⟨W.heap.size, 0, none⟩ 1 [UInt8.ofNat (48 + m % 10)] Try.underlying22 Try.underlying5 Try.underlying9 ?_
  intro j hj
  have h0 : j = 0 := by simpa using hj
  subst h0
  have : (UInt8.ofNat (48 + m % 10)).toNat = 48 + m % 10 := by simp; omega
  rw [show (⟨W.heap.size, 0, none⟩ : Addr).add 0 = ⟨W.heap.size, 0, none⟩ from rfl, cell_block (blk_alloc W _)]
  simp only [List.getElem_cons_zero, this]
  simp
def mkT (n : Nat) : ByteArray := ⟨#[109]⟩ ++ mkD n ⟨#[]⟩
set_option maxHeartbeats 2000000 in
theorem markText_any (n : Nat) (h0 : 1 ≤ n) (h1 : n ≤ 9000000) (w : World) :
    Calls Try.prog 54 #[.int .i64 (n : Int)] w fun e w' => e = .returned (.string (mkT n)) ∧ Below w.heap.size w w' := by
  go_enter Try.func54, Try.ntmps54
  go_wp2_with fail
  go_loopg [0, 3] n (fun gk s0 s3 wr => Below w.heap.size w wr ∧ ∃ (m : Nat) (s : ByteArray), m = gk ∧ s0 = .int .i64 (m : Int) ∧ s3 = .string s ∧ m ≤ 9000000 ∧ mkD m s = mkD n ⟨#[]⟩ ∧ ∃ j : Nat, m < 10 ^ j ∧ s.size + j ≤ 8)
  case atStart => exact ⟨Below.refl _ _, n, ⟨#[]⟩, rfl, rfl, rfl, h1, rfl, 7, by omega, by decide⟩
  case round =>
    obtain ⟨hbw, m, s, rfl, rfl, rfl, hm, hD, j, hj, hz⟩ := hrel
    have HW := hide hbw
    have HD := hide hD
    have HJ := hide hj
    clear hbw hD hj
    by_cases hlt : 0 < m
    · have hcv := conv_dig m
      have hsz : s.size ≤ 1000 := by omega
      have hb : ((⟨#[UInt8.ofNat (48 + m % 10)]⟩ : ByteArray)).size = 1 := rfl
      generalize hB : (⟨#[UInt8.ofNat (48 + m % 10)]⟩ : ByteArray) = B at hcv hb
      have HB := hide hB
      clear hB
      go_wp2_with fail
      clear hcv
      go_roundg (m / 10)
      case measure => omega
      case rel =>
        obtain ⟨j', rfl⟩ : ∃ j', j = j' + 1 := ⟨j - 1, by
          have : j ≠ 0 := by rintro rfl; have := HJ.out; simp at this; omega
          omega⟩
        have h10 : m / 10 < 10 ^ j' := Nat.div_lt_of_lt_mul (by have := HJ.out; rw [Nat.pow_succ, Nat.mul_comm] at this; exact this)
        exact ⟨HW.out.alloc HW.out.size _, m / 10, B ++ s, rfl, by go_num, rfl, by omega, by rw [← HB.out]; exact (mkD_step (by omega) s).symm.trans HD.out, j', h10, by rw [ByteArray.size_append]; omega⟩
    · have hm0 : m = 0 := by omega
      subst hm0
      have HE := hide ((mkD_zero s).symm.trans HD.out)
      clear HD
      go_wp2_with fail
      go_ret
      exact ⟨by unfold mkT; rw [← HE.out]; rfl, HW.out⟩
end Go.Proofs.Yteikeljklfblmaa
