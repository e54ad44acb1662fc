/-
  decimal of the specification: the text of a number, by recursion.
-/
import Derived.Test.YtdijcdadcbhipaaDoorItoa
import Derived.Test.YtdijcdadcbhipaaDoorQuiet
import Derived.Test.YtdijcdadcbhipaaDoorOwn
import Derived.Deep.LoopGhost
import Derived.Deep.RegionHeld3
import Derived.RegionCalls
import Derived.Deep.RegionWith
import Derived.Deep.RegionLaw
import Derived.Deep.DeepCutAuto
set_option linter.all false
namespace Go.Proofs.YtdijcdadcbhipaaDoor
open Go.RowKit
theorem conv_one (c : UInt8) (z : Int) (hz : z = (c.toNat : Int)) (W : World) (g : Nat) (h : W.heap[g]? = some (.cells #[.int .u8 z] 5 (0, 0))) :
    (convert 22 9 (.slice (some ⟨g, 0, none⟩) 1 1)).run Tryd.prog W = .ok (.string ⟨#[c]⟩) W := by
  subst hz
  refine run_convert_bytes_back _ _ _ 5 ⟨g, 0, none⟩ 1 [c] Tryd.underlying22 Tryd.underlying5 Tryd.underlying9 ?_
  intro j hj
  have h0 : j = 0 := by simpa using hj
  subst h0
  rw [show (⟨g, 0, none⟩ : Addr).add 0 = ⟨g, 0, none⟩ from rfl, cell_block h]
  simp
theorem dig_nat (d : Nat) (h : d < 10) : (48 + (d : Int)) = ((UInt8.ofNat (48 + d)).toNat : Int) := by
  have : (UInt8.ofNat (48 + d)).toNat = 48 + d := by simp; omega
  rw [this]; simp
theorem decT_size (n : Int) (h0 : -9223372036854775808 ≤ n) (h1 : n ≤ 9223372036854775807) : (decT n).size ≤ 21 := by
  have := Lib.itoa_length_le n h0 h1
  simpa [decT, ByteArray.size] using this
theorem decT_small {m : Nat} (h : m < 10) : decT (m : Int) = ⟨#[UInt8.ofNat (48 + m)]⟩ := by
  unfold decT Lib.itoa
  rw [if_neg (by omega), show ((m : Int)).toNat = m from rfl, Lib.decDigits_one h]
theorem ba_ext {a b : ByteArray} (h : a.data.toList = b.data.toList) : a = b := by
  cases a with | mk a => cases b with | mk b => cases a with | mk a => cases b with | mk b => simp at h; rw [h]
theorem decT_big {m : Nat} (h : ¬ m < 10) : decT (m : Int) = decT ((m / 10 : Nat) : Int) ++ ⟨#[UInt8.ofNat (48 + m % 10)]⟩ := by
  apply ba_ext
  rw [ByteArray.data_append, Array.toList_append]
  unfold decT Lib.itoa
  rw [if_neg (by omega), if_neg (by omega), show ((m : Int)).toNat = m from rfl, show (((m / 10 : Nat) : Int)).toNat = m / 10 from rfl, Lib.decDigits, dif_neg h]
theorem decT_neg {m : Nat} (h : m ≠ 0) : decT (-(m : Int)) = (⟨#[45]⟩ : ByteArray) ++ decT (m : Int) := by
  apply ba_ext
  rw [ByteArray.data_append, Array.toList_append]
  unfold decT Lib.itoa
  rw [if_pos (by omega), if_neg (by omega), show ((m : Int)).toNat = m from rfl]
  simp
set_option maxHeartbeats 2000000 in
theorem decimal_nat (m : Nat) : ∀ (w : World), m ≤ 9999999 →
    Calls Tryd.prog 106 #[.int .i64 (m : Int)] w fun e w' => e = .returned (.string (decT (m : Int))) ∧ Below w.heap.size w w' := by
  induction m using Nat.strongRecOn with
  | _ m ih =>
  intro w hm
  by_cases hs : m < 10
  · have HE := hide (decT_small hs)
    have hcv : ∀ W : World, (convert 22 9 (.slice (some ⟨W.heap.size, 0, none⟩) 1 1)).run Tryd.prog (W.alloc (.cells #[.int .u8 (48 + (m : Int))] 5)) = .ok (.string ⟨#[UInt8.ofNat (48 + m)]⟩) (W.alloc (.cells #[.int .u8 (48 + (m : Int))] 5)) := fun W => conv_one _ _ (dig_nat m hs) _ _ (blk_alloc W _)
    clear ih
    generalize (⟨#[UInt8.ofNat (48 + m)]⟩ : ByteArray) = U at *
    go_enter Tryd.func106, Tryd.ntmps106
    go_wp2_with fail
    clear hcv
    go_ret
    exact ⟨by rw [HE.out]; rfl, (Below.refl _ _).alloc (Nat.le_refl _) _⟩
  · have HE := hide (decT_big hs)
    have hz := decT_size ((m / 10 : Nat) : Int) (by omega) (by omega)
    have hcv : ∀ (W : World) (g : Nat), W.heap[g]? = some (.cells #[.int .u8 (48 + (m : Int) % 10)] 5 (0, 0)) → (convert 22 9 (.slice (some ⟨g, 0, none⟩) 1 1)).run Tryd.prog W = .ok (.string ⟨#[UInt8.ofNat (48 + m % 10)]⟩) W := fun W g h => conv_one _ _ (by rw [← dig_nat (m % 10) (by omega)]; omega) _ _ h
    have HCV := hide hcv
    have HB : Hid (∀ W w', Below w.heap.size w W → Below W.heap.size W w' → Below w.heap.size w w') := fun _ _ h h' => h.trans (h'.mono h.size)
    have hca : ∀ W : World, (convert 22 9 (.slice (some ⟨W.heap.size, 0, none⟩) 1 1)).run Tryd.prog (W.alloc (.cells #[.int .u8 (48 + (m : Int) % 10)] 5)) = .ok (.string ⟨#[UInt8.ofNat (48 + m % 10)]⟩) (W.alloc (.cells #[.int .u8 (48 + (m : Int) % 10)] 5)) := fun W => hcv _ _ (blk_alloc W _)
    have hcd : ∀ W : World, (convert 22 9 (.slice (some ⟨W.heap.size, 0, none⟩) 1 1)).run Tryd.prog ((W.alloc (.cells #[.int .u8 (48 + (m : Int) % 10)] 5)).drew) = .ok (.string ⟨#[UInt8.ofNat (48 + m % 10)]⟩) ((W.alloc (.cells #[.int .u8 (48 + (m : Int) % 10)] 5)).drew) := fun W => hcv _ _ (blk_alloc W _)
    have IH : Hid (∀ w z, z = ((m / 10 : Nat) : Int) → Calls Tryd.prog 106 #[.int .i64 z] w fun e w' => e = .returned (.string (decT ((m / 10 : Nat) : Int))) ∧ Below w.heap.size w w') := fun w z hz => by subst hz; exact ih (m / 10) (by omega) w (by omega)
    clear ih hcv
    generalize hD : decT ((m / 10 : Nat) : Int) = D at *
    generalize hU : (⟨#[UInt8.ofNat (48 + m % 10)]⟩ : ByteArray) = U at *
    have hu : U.size = 1 := by rw [← hU]; rfl
    have k7 : ¬ (9223372036854775807 < D.size + 1) := by omega
    have k0 : decide ((m : Int) < 10) = false := decide_eq_false (by omega)
    have k1 : IntKind.i64.wrap ((m : Int) / 10) = (m : Int) / 10 := by rw [IntKind.wrap_i64]; omega
    have k2 : (m : Int).tmod 10 = (m : Int) % 10 := Int.tmod_eq_emod_of_nonneg (by omega)
    have k3 : IntKind.i64.wrap ((m : Int) % 10) = (m : Int) % 10 := by rw [IntKind.wrap_i64]; omega
    have k4 : IntKind.i64.wrap (48 + (m : Int) % 10) = 48 + (m : Int) % 10 := by rw [IntKind.wrap_i64]; omega
    have k5 : IntKind.u8.wrap (48 + (m : Int) % 10) = 48 + (m : Int) % 10 := by rw [IntKind.wrap_u8]; omega
    have k6 : (m : Int).tdiv 10 = (m : Int) / 10 := Int.tdiv_eq_ediv_of_nonneg (by omega)
    clear hD hU
    go_enter Tryd.func106, Tryd.ntmps106
    go_upto_region 7 with fail
    go_cut [2] (fun s2 wx => s2 = .string (D ++ U) ∧ Below w.heap.size w wx)
    case first =>
      go_region_law (first
        | (go_simp; go_at_call 106; (with_reducible refine (IH.out _ _ ?hzz).mono ?_); (case hzz => go_num); rintro e w3 ⟨rfl, hb3⟩; (have H3 : Hid (Below w.heap.size w w3) := by first | exact HB.out _ _ ((Below.refl _ _).drew) hb3 | exact HB.out _ _ (((Below.refl _ _).alloc (Nat.le_refl _) _).drew) hb3); try (have hq := HCV.out w3 _ (by with_reducible exact blk_own hb3 (blk_alloc _ _))))
        | fail)
      all_goals trace_state
      all_goals
        go_wp2_with fail
        go_meet
        first
        | exact ⟨rfl, H3.out⟩
        | exact ⟨rfl, H3.out.alloc H3.out.size _⟩
        | exact ⟨rfl, (H3.out.alloc H3.out.size _).drew⟩
        | exact ⟨rfl, H3.out.drew⟩
    case rest =>
      obtain ⟨rfl, hb⟩ := hcut
      have HX := hide hb
      clear hb hca hcd k0 k1 k2 k3 k4 k5 k6 k7
      go_wp2_with fail
      go_ret
      exact ⟨by rw [HE.out]; rfl, HX.out⟩
set_option maxHeartbeats 2000000 in
/-- the text of a number that is not too great -/
theorem decimal_any (n : Int) (w : World) (h0 : -9999999 ≤ n) (h1 : n ≤ 9999999) :
    Calls Tryd.prog 106 #[.int .i64 n] w fun e w' => e = .returned (.string (decT n)) ∧ Below w.heap.size w w' := by
  by_cases hn : n < 0
  · obtain ⟨m, rfl⟩ : ∃ m : Nat, n = -(m : Int) := ⟨(-n).toNat, by omega⟩
    have hm : m ≠ 0 := by omega
    have HE := hide (decT_neg hm)
    have HD := hide (decimal_nat m)
    have hz := decT_size (m : Int) (by omega) (by omega)
    generalize hD : decT (m : Int) = D at *
    have k7 : ¬ (9223372036854775807 < 1 + D.size) := by omega
    have k8 : IntKind.i64.wrap (m : Int) = (m : Int) := by rw [IntKind.wrap_i64]; omega
    have k9 : (-(m : Int) == (m : Int)) = false := by simp; omega
    have k10 : ¬ (-(m : Int) = (m : Int)) := by omega
    clear hD
    go_enter Tryd.func106, Tryd.ntmps106
    go_wp2_with fail
    refine (HD.out _ (by omega)).mono ?_
    rintro e w3 ⟨rfl, hb3⟩
    have H3 := hide hb3
    clear hb3
    go_wp2_with fail
    go_ret
    exact ⟨by rw [HE.out]; rfl, H3.out⟩
  · obtain ⟨m, rfl⟩ : ∃ m : Nat, n = (m : Int) := ⟨n.toNat, by omega⟩
    exact decimal_nat m w (by omega)
end Go.Proofs.YtdijcdadcbhipaaDoor
