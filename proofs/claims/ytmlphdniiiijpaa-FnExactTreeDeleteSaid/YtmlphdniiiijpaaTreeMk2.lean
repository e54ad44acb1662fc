/-
  toItemSS, markItemSS, heldItemSS and the same at trees.
-/
import Derived.Test.YtmlphdniiiijpaaTreeMk
set_option linter.all false
namespace Go.Proofs.Ytmlphdniiiijpaa
open Go.RowKit
def mixK (m : Nat) (t : List (List Itm)) (k : Nat) : List (List Itm) := (List.range t.length).map fun i => if i < k then marksItem (m + 2 * (flatT (t.take i)).length) (t.getD i []).length else t.getD i []
theorem mixK_len (m : Nat) (t : List (List Itm)) (k : Nat) : (mixK m t k).length = t.length := by simp [mixK]
theorem mixK_at {m : Nat} {t : List (List Itm)} {k i : Nat} (h : i < (mixK m t k).length) : (mixK m t k)[i] = if i < k then marksItem (m + 2 * (flatT (t.take i)).length) (t.getD i []).length else t.getD i [] := by simp [mixK]
theorem getD_atX {t : List (List Itm)} {p : Nat} (h : p < t.length) : t.getD p [] = t[p] := by
  rw [List.getD_eq_getElem?_getD, List.getElem?_eq_getElem h]; rfl
theorem mixK_zero (m : Nat) (t : List (List Itm)) : mixK m t 0 = t := by
  apply List.ext_getElem (mixK_len _ _ _)
  intro i h1 h2
  rw [mixK_at, if_neg (by omega), getD_atX h2]
theorem mixK_old {m : Nat} {t : List (List Itm)} {k : Nat} (h : k < t.length) : (mixK m t k)[k]'(by rw [mixK_len]; exact h) = t[k] := by
  rw [mixK_at, if_neg (by omega), getD_atX h]
theorem mixK_set {m : Nat} {t : List (List Itm)} {k : Nat} (h : k < t.length) : (mixK m t k).set k (marksItem (m + 2 * (flatT (t.take k)).length) t[k].length) = mixK m t (k + 1) := by
  apply List.ext_getElem (by rw [List.length_set, mixK_len, mixK_len])
  intro i h1 h2
  rw [mixK_at]
  by_cases hik : i = k
  · subst hik
    rw [List.getElem_set_self, if_pos (by omega), getD_atX h]
  · rw [List.getElem_set_ne (by omega), mixK_at]
    by_cases hlt : i < k
    · rw [if_pos hlt, if_pos (by omega)]
    · rw [if_neg hlt, if_neg (by omega)]
def MarkTRet (w : World) (lo hi m : Nat) (v : Value) (t : List (List Itm)) (e : Ending) (w' : World) : Prop :=
  e = .returned (.int .i64 ((m + 2 * (flatT t).length : Nat) : Int)) ∧ MkT lo hi w' v (mixK m t t.length) ∧ Wi lo hi w w'
set_option maxHeartbeats 8000000 in
theorem markItemSS_mk (lo hi m : Nat) (v : Value) (t : List (List Itm)) (w : World) (h : MkT lo hi w v t) (hl : lo ≤ w.heap.size) (h0 : 1 ≤ m) (h1 : m + 2 * (flatT t).length ≤ 9000000) :
    Calls Try.prog 65 #[v, .int .i64 (m : Int)] w (MarkTRet w lo hi m v t) := by
  have HM := hide h
  obtain ⟨a, cap, rfl, hn, hc, -⟩ := h
  obtain ⟨S, hS⟩ : ∃ S, m + 2 * (flatT t).length = S := ⟨_, rfl⟩
  have HSS := hide hS
  go_enter Try.func65, Try.ntmps65
  go_wp2_with fail
  go_loopg [1, 5] t.length (fun gk s1 s5 wr => Wi lo hi w wr ∧ ∃ (k p : Nat), k + gk = t.length ∧ Hid (p = m + 2 * (flatT (t.take k)).length) ∧ s1 = .int .i64 (p : Int) ∧ s5 = .int .i64 (k : Int) ∧ MkT lo hi wr (.slice a t.length cap) (mixK m t k))
  case atStart => exact ⟨Wi.refl _ _ _, 0, m, by omega, hide (by simp [flatT]), rfl, rfl, by rw [mixK_zero]; exact HM.out⟩
  case round =>
    obtain ⟨hw, k, p, hk, hp, rfl, rfl, hmk⟩ := hrel
    have HW := hide hw
    have hlw : lo ≤ wr.heap.size := Nat.le_trans hl hw.below.size
    by_cases hlt : k < t.length
    · obtain ⟨b, lv, g, ⟨n, c, hv, hnn⟩, hbl, e0, hr, hg0, hstep⟩ := hmk.leaf hlw (k := k) (by rw [mixK_len]; exact hlt)
      injection hv with hv1 hv2 hv3
      subst hv1; subst hv2; subst hv3
      clear hnn
      have hold := mixK_old (m := m) hlt
      rw [hold] at hr hg0 hstep
      have hll := leaf_len hlt
      have htk := flatT_take_s t hlt
      have htl := flatT_take_len t (k + 1)
      have HMK := hide (markItemS_row g p lv t[k] wr hr (by have := hp.out; omega) (by have := hp.out; omega))
      have HST := hide (fun w' (hg : wr.grownBy w' (some g)) (hr' : RowItem g w' lv (marksItem p t[k].length)) => hstep w' _ hg hr' (by rw [marksItem_len]))
      have HNX := hide (mixK_set (m := m) hlt)
      rw [← hp.out] at HNX
      have HPN : Hid (p + t[k].length * 2 = m + 2 * (flatT (t.take (k + 1))).length) := by unfold Hid; have := hp.out; omega
      obtain ⟨la, lc, rfl⟩ := itms_shape hr.rows
      have hp9 : p + t[k].length * 2 ≤ 9000000 := by have := hp.out; omega
      clear hstep hr hold hmk hw HM hg0 htk htl hll
      generalize t[k] = f at *
      go_wp2_with fail
      refine HMK.out.mono ?_
      rintro e w2 ⟨rfl, hg, hrow⟩
      obtain ⟨hm2, hwi⟩ := HST.out w2 hg hrow
      rw [HNX.out] at hm2
      have HM2 := hide hm2
      have HW2 := hide (HW.out.trans hwi)
      obtain ⟨P2, hP2⟩ : ∃ P2, p + f.length * 2 = P2 := ⟨_, rfl⟩
      rw [hP2] at HPN ⊢
      clear hm2 hwi hg hrow HMK HST hP2
      go_wp2_with fail
      go_roundg (gk - 1)
      case measure => omega
      case rel => exact ⟨HW2.out, k + 1, P2, by omega, HPN.out, by go_num, by go_num, HM2.out⟩
    · have hkl : k = t.length := by omega
      subst hkl
      have hpp := hp.out
      rw [List.take_length, HSS.out] at hpp
      have HMF := hide hmk
      subst hpp
      clear hw hmk HM
      go_wp2_with fail
      go_ret
      exact ⟨by rw [HSS.out]; rfl, HMF.out, HW.out⟩
set_option maxHeartbeats 8000000 in
theorem heldItemSS_mk (lo hi m : Nat) (v : Value) (t : List (List Itm)) (w : World) (h : MkT lo hi w v (mixK m t t.length)) (hl : lo ≤ w.heap.size) (h0 : 1 ≤ m) (h1 : m + 2 * (flatT t).length ≤ 9000000) :
    Calls Try.prog 66 #[v, .int .i64 (m : Int)] w (fun e w' => e = .returned (.int .i64 ((m + 2 * (flatT t).length : Nat) : Int)) ∧ Below w.heap.size w w') := by
  have HM := hide h
  obtain ⟨a, cap, rfl, hn, hc, -⟩ := h
  rw [mixK_len] at hn HM ⊢
  obtain ⟨S, hS⟩ : ∃ S, m + 2 * (flatT t).length = S := ⟨_, rfl⟩
  have HSS := hide hS
  go_enter Try.func66, Try.ntmps66
  go_wp2_with fail
  go_loopg [1, 5] t.length (fun gk s1 s5 wr => Below w.heap.size w wr ∧ ∃ (k p : Nat), k + gk = t.length ∧ Hid (p = m + 2 * (flatT (t.take k)).length) ∧ s1 = .int .i64 (p : Int) ∧ s5 = .int .i64 (k : Int))
  case atStart => exact ⟨Below.refl _ _, 0, m, by omega, hide (by simp [flatT]), rfl, rfl⟩
  case round =>
    obtain ⟨hw, k, p, hk, hp, rfl, rfl⟩ := hrel
    have HW := hide hw
    have hlw : lo ≤ wr.heap.size := Nat.le_trans hl hw.size
    by_cases hlt : k < t.length
    · obtain ⟨b, lv, g, ⟨n, c, hv, hnn⟩, hbl, e0, hr, -, -⟩ := (HM.out.keep hw).leaf hlw (k := k) (by rw [mixK_len]; exact hlt)
      injection hv with hv1 hv2 hv3
      subst hv1; subst hv2; subst hv3
      clear hnn
      rw [mixK_at, if_pos hlt, getD_atX hlt, ← hp.out] at hr
      have hll := leaf_len hlt
      have htk := flatT_take_s t hlt
      have htl := flatT_take_len t (k + 1)
      have HMK := hide (heldItemS_row g t[k].length p lv wr hr (by have := hp.out; omega) (by have := hp.out; omega))
      have HPN : Hid (p + t[k].length * 2 = m + 2 * (flatT (t.take (k + 1))).length) := by unfold Hid; have := hp.out; omega
      have hsh := itms_shape hr.rows
      rw [marksItem_len] at hsh
      obtain ⟨la, lc, rfl⟩ := hsh
      have hp9 : p + t[k].length * 2 ≤ 9000000 := by have := hp.out; omega
      clear hr hw htk htl hll
      generalize t[k] = f at *
      go_wp2_with fail
      refine HMK.out.mono ?_
      rintro e w2 ⟨rfl, hb⟩
      have HW2 : Hid (Below w.heap.size w w2) := HW.out.trans (hb.mono HW.out.size)
      obtain ⟨P2, hP2⟩ : ∃ P2, p + f.length * 2 = P2 := ⟨_, rfl⟩
      rw [hP2] at HPN ⊢
      clear hb HMK hP2
      go_wp2_with fail
      go_roundg (gk - 1)
      case measure => omega
      case rel => exact ⟨HW2.out, k + 1, P2, by omega, HPN.out, by go_num, by go_num⟩
    · have hkl : k = t.length := by omega
      subst hkl
      have hpp := hp.out
      rw [List.take_length, HSS.out] at hpp
      subst hpp
      clear hw HM
      go_wp2_with fail
      go_ret
      exact ⟨by rw [HSS.out]; rfl, HW.out⟩
end Go.Proofs.Ytmlphdniiiijpaa
