/-
  Rows of formats in the exact laws: equality, and the marks.
-/
import Derived.Test.YtdijcdadcbhipaaDoorFPl4
import Derived.Test.YtdijcdadcbhipaaDoorFEx
set_option linter.all false
namespace Go.Proofs.YtdijcdadcbhipaaDoor
open Go.RowKit
def totL : List (List RCol) → Nat
  | [] => 0
  | f :: r => f.length + totL r
def markL : Nat → List (List RCol) → List (List RCol)
  | _, [] => []
  | m, f :: r => markC m f.length :: markL (m + 4 * f.length) r
theorem markL_len : ∀ (m : Nat) (L : List (List RCol)), (markL m L).length = L.length
  | _, [] => rfl
  | m, f :: r => by rw [markL, List.length_cons, List.length_cons, markL_len]
theorem totL_snoc : ∀ (A : List (List RCol)) (x : List RCol), totL (A ++ [x]) = totL A + x.length
  | [], x => by simp [totL]
  | f :: r, x => by rw [List.cons_append, totL, totL, totL_snoc r x]; omega
theorem markL_snoc : ∀ (m : Nat) (A : List (List RCol)) (x : List RCol), markL m (A ++ [x]) = markL m A ++ [markC (m + 4 * totL A) x.length]
  | m, [], x => by simp [markL, totL]
  | m, f :: r, x => by rw [List.cons_append, markL, markL, markL_snoc _ r x, List.cons_append, totL, show m + 4 * f.length + 4 * totL r = m + 4 * (f.length + totL r) by omega]
theorem totL_take {L : List (List RCol)} {k : Nat} (h : k < L.length) : totL (L.take (k + 1)) = totL (L.take k) + L[k].length := by
  rw [List.take_succ_eq_append_getElem h, totL_snoc]
theorem markL_take {L : List (List RCol)} {m k : Nat} (h : k < L.length) : markL m (L.take (k + 1)) = markL m (L.take k) ++ [markC (m + 4 * totL (L.take k)) L[k].length] := by
  rw [List.take_succ_eq_append_getElem h, markL_snoc]
theorem markL_get : ∀ (m : Nat) (L : List (List RCol)) (k : Nat) (h : k < L.length) (h' : k < (markL m L).length), (markL m L)[k] = markC (m + 4 * totL (L.take k)) L[k].length
  | m, f :: r, 0, h, h' => by simp [markL, totL]
  | m, f :: r, k + 1, h, h' => by
    simp only [markL, List.getElem_cons_succ, List.take_succ_cons, totL]
    rw [markL_get (m + 4 * f.length) r k (by simpa using h) (by rw [markL_len]; simpa using h)]
    congr 1; omega
theorem totL_split (L : List (List RCol)) (k : Nat) : totL L = totL (L.take k) + totL (L.drop k) := by
  induction L generalizing k with
  | nil => simp [totL]
  | cons f r ih =>
    cases k with
    | zero => simp [totL]
    | succ k => rw [List.take_succ_cons, List.drop_succ_cons, totL, totL, ih k]; omega
theorem totL_at {L : List (List RCol)} {k : Nat} (h : k < L.length) : totL (L.take k) + L[k].length ≤ totL L := by
  rw [← totL_take h]; have := totL_split L (k + 1); omega
set_option maxHeartbeats 4000000 in
theorem eqColumnSS_same (v v' : Value) (L : List (List RCol)) (w : World) (h : Lvs w v L) (h' : Lvs w v' L) :
    Calls Tryd.prog 43 #[v, v'] w fun x w' => x = .returned (.bool true) ∧ Below w.heap.size w w' := by
  obtain ⟨a, cap, rfl, hl, hcap, hd⟩ := h
  obtain ⟨a', cap', rfl, hl', hcap', hd'⟩ := h'
  go_enter Tryd.func43, Tryd.ntmps43
  go_wp2_with fail
  go_loopg [5] L.length (fun gk s5 wr => Below w.heap.size w wr ∧ ∃ k : Nat, k + gk = L.length ∧ s5 = .int .i64 (k : Int))
  case atStart => exact ⟨Below.refl _ _, 0, by omega, rfl⟩
  case round =>
    obtain ⟨hbw, k, hk, rfl⟩ := hrel
    have HW := hide hbw
    by_cases hlt : k < L.length
    · obtain ⟨b, off, rfl, hbb, hcell⟩ := hd.resolve_left (by rintro rfl; simp at hlt)
      obtain ⟨b', off', rfl, hbb', hcell'⟩ := hd'.resolve_left (by rintro rfl; simp at hlt)
      obtain ⟨lv, c1, r1, -⟩ := hcell k hlt
      obtain ⟨lu, c2, r2, -⟩ := hcell' k hlt
      have e0 := fun z : BW wr => bw_cell (p := ⟨b, off + k, none⟩) (Nat.lt_of_lt_of_le hbb hbw.size) ((hbw.cell (p := ⟨b, off + k, none⟩) hbb).trans c1) z
      have f0 := fun z : BW wr => bw_cell (p := ⟨b', off' + k, none⟩) (Nat.lt_of_lt_of_le hbb' hbw.size) ((hbw.cell (p := ⟨b', off' + k, none⟩) hbb').trans c2) z
      have EE := hide (fun z : BW wr => eqColumnS_same lv lu L[k] z.v ((r1.keep hbw).keep z.h) ((r2.keep hbw).keep z.h))
      obtain ⟨al, cl, rfl, -, -⟩ := r1.shape
      obtain ⟨au, cu, rfl, -, -⟩ := r2.shape
      clear hcell hd hcell' hd' hbw c1 c2 r1 r2
      go_wp2_with fail
      refine wp_region_bw (by kernel_rfl) (by kernel_rfl) ?_
      repeat (go_big_quiet_step (first | (go_at_call 24; with_reducible exact bw_of (EE.out _))))
      refine wpQuiet_nil ?_
      rintro _ ⟨z, rfl⟩
      have H1 : Hid (Below w.heap.size w z.v) := HW.out.trans (z.h.mono HW.out.size)
      go_wp2_with fail
      go_roundg (gk - 1)
      case measure => omega
      case rel => exact ⟨H1.out, k + 1, by omega, by go_num⟩
    · clear hd hd' hbw
      go_wp2_with fail
      go_ret
      exact ⟨rfl, HW.out⟩
theorem markL_set {L : List (List RCol)} {m k : Nat} (h : k < L.length) : (markL m (L.take k) ++ L.drop k).set k (markC (m + 4 * totL (L.take k)) L[k].length) = markL m (L.take (k + 1)) ++ L.drop (k + 1) := by
  have hl : (markL m (L.take k)).length = k := by rw [markL_len, List.length_take]; omega
  rw [markL_take h, List.drop_eq_getElem_cons h, List.set_append_right _ _ (by omega), hl, Nat.sub_self, List.set_cons_zero, List.append_assoc]; rfl
theorem markL_mid {L : List (List RCol)} {m k : Nat} (h : k < L.length) (h' : k < (markL m (L.take k) ++ L.drop k).length) : (markL m (L.take k) ++ L.drop k)[k] = L[k] := by
  have hl : (markL m (L.take k)).length = k := by rw [markL_len, List.length_take]; omega
  rw [List.getElem_append_right (by omega)]
  simp [hl]
theorem markL_mlen {L : List (List RCol)} {m k : Nat} (h : k ≤ L.length) : (markL m (L.take k) ++ L.drop k).length = L.length := by
  rw [List.length_append, markL_len, List.length_take, List.length_drop]; omega
set_option maxHeartbeats 8000000 in
set_option maxRecDepth 100000 in
theorem markColumnSS_any (B : Nat) (v : Value) (L : List (List RCol)) (m : Nat) (w : World) (h : OwnL B w v L) (hB : B ≤ w.heap.size) (h0 : 1 ≤ m) (h1 : m + 4 * totL L ≤ 9000000) :
    Calls Tryd.prog 46 #[v, .int .i64 (m : Int)] w fun e w' => e = .returned (.int .i64 ((m + 4 * totL L : Nat) : Int)) ∧ Below B w w' ∧ OwnL B w' v (markL m L) := by
  obtain ⟨a, cap, rfl, hl, hcap⟩ := ownL_slc h
  have HO := hide h
  clear h
  go_enter Tryd.func46, Tryd.ntmps46
  go_wp2_with fail
  go_loopg [1, 5] L.length (fun gk s1 s5 wr => Below B w wr ∧ ∃ k : Nat, k + gk = L.length ∧ s1 = .int .i64 ((m + 4 * totL (L.take k) : Nat) : Int) ∧ s5 = .int .i64 (k : Int) ∧ OwnL B wr (.slice a L.length cap) (markL m (L.take k) ++ L.drop k))
  case atStart => exact ⟨Below.refl _ _, 0, by omega, rfl, rfl, HO.out⟩
  case round =>
    clear HO
    obtain ⟨hbw, k, hk, rfl, rfl, hown⟩ := hrel
    have HW := hide hbw
    have HO := hide hown
    clear hbw hown
    by_cases hlt : k < L.length
    · have hml : k < (markL m (L.take k) ++ L.drop k).length := by rw [markL_mlen (by omega)]; exact hlt
      obtain ⟨g, c, lv, hv, hcell, hlo, hset⟩ := HO.out.leaf k hml
      injection hv with hv1 hv2 hv3
      subst hv1
      clear hv2 hv3
      rw [markL_mid hlt hml] at hlo
      obtain ⟨M, hM⟩ : ∃ M : Nat, M = m + 4 * totL (L.take k) := ⟨_, rfl⟩
      have hset' : Hid (∀ w', wr.grownBy w' lv.ownBlock → OwnC B w' lv (markC M L[k].length) → OwnL B w' (.slice (some ⟨g, 0, none⟩) L.length cap) (markL m (L.take (k + 1)) ++ L.drop (k + 1))) := fun w' q1 q2 => by
        have := hset w' _ q1 q2
        rw [hM, markL_set hlt] at this
        exact this
      have hta := totL_at hlt
      have hts : Hid (m + 4 * totL (L.take (k + 1)) = M + 4 * L[k].length) := by unfold Hid; rw [totL_take hlt, hM]; omega
      have hM1 : 1 ≤ M := by omega
      have hM2 : M + 4 * L[k].length ≤ 9000000 := by omega
      rw [← hM]
      have HMK := hide (fun (W : World) (h : OwnR cEnc 4 27 B W lv L[k]) => markColumnS_any B lv L[k] M W h hM1 hM2)
      have HLO : Hid (OwnR cEnc 4 27 B wr lv L[k]) := hlo
      have HBS := hide (OwnR.base (show OwnR cEnc 4 27 B wr lv L[k] from hlo))
      clear hset hM hta hml HO
      obtain ⟨al, cl, rfl, -, -⟩ := own_slc hlo
      clear hlo
      generalize L[k].length = n at *
      go_wp2_with fail
      with_reducible refine (HMK.out _ HLO.out).mono ?_
      rintro e w2 ⟨rfl, hg2, ho2⟩
      have H2 : Hid (Below B w w2) := HW.out.grown hg2 (Nat.le_trans hB HW.out.size) (fun j hj => HBS.out j hj)
      have O2 := hide (hset'.out w2 hg2 ho2)
      clear hg2 ho2 HMK HLO hset' HBS hcell
      go_wp2_with fail
      go_roundg (gk - 1)
      case measure => omega
      case rel => exact ⟨H2.out, k + 1, by omega, by rw [hts.out]; first | rfl | go_num, by go_num, O2.out⟩
    · have hkl : k = L.length := by omega
      have HF : Hid (OwnL B wr (.slice a L.length cap) (markL m L)) := by
        have := HO.out
        rw [hkl, List.take_length, List.drop_length, List.append_nil] at this
        exact this
      have HT : Hid (totL (L.take k) = totL L) := by unfold Hid; rw [hkl, List.take_length]
      clear HO
      go_wp2_with fail
      go_ret
      exact ⟨by rw [HT.out]; rfl, HW.out, HF.out⟩
set_option maxHeartbeats 8000000 in
set_option maxRecDepth 100000 in
theorem heldColumnSS_any (v : Value) (L : List (List RCol)) (m : Nat) (w : World) (h : Lvs w v (markL m L)) (h0 : 1 ≤ m) (h1 : m + 4 * totL L ≤ 9000000) :
    Calls Tryd.prog 47 #[v, .int .i64 (m : Int)] w fun e w' => e = .returned (.int .i64 ((m + 4 * totL L : Nat) : Int)) ∧ Below w.heap.size w w' := by
  obtain ⟨a, cap, rfl, hl, hcap, hd⟩ := h
  rw [markL_len] at hl ⊢
  go_enter Tryd.func47, Tryd.ntmps47
  go_wp2_with fail
  go_loopg [1, 5] L.length (fun gk s1 s5 wr => Below w.heap.size w wr ∧ ∃ k : Nat, k + gk = L.length ∧ s1 = .int .i64 ((m + 4 * totL (L.take k) : Nat) : Int) ∧ s5 = .int .i64 (k : Int))
  case atStart => exact ⟨Below.refl _ _, 0, by omega, rfl, rfl⟩
  case round =>
    obtain ⟨hbw, k, hk, rfl, rfl⟩ := hrel
    have HW := hide hbw
    by_cases hlt : k < L.length
    · have hml : k < (markL m L).length := by rw [markL_len]; exact hlt
      obtain ⟨b, off, rfl, hbb, hcell⟩ := hd.resolve_left (by intro h; rw [h] at hml; simp at hml)
      obtain ⟨lv, c1, r1, -⟩ := hcell k hml
      rw [markL_get m L k hlt hml] at r1
      have e0 := (hbw.cell (p := ⟨b, off + k, none⟩) hbb).trans c1
      obtain ⟨M, hM⟩ : ∃ M : Nat, M = m + 4 * totL (L.take k) := ⟨_, rfl⟩
      rw [← hM] at r1 ⊢
      have hta := totL_at hlt
      have hts : Hid (m + 4 * totL (L.take (k + 1)) = M + 4 * L[k].length) := by unfold Hid; rw [totL_take hlt, hM]; omega
      have hM1 : 1 ≤ M := by omega
      have hM2 : M + 4 * L[k].length ≤ 9000000 := by omega
      have HH := hide (heldColumnS_any lv M L[k].length wr (r1.keep hbw) hM1 hM2)
      obtain ⟨al, cl, rfl, -, -⟩ := r1.shape
      clear hcell hd hbw c1 r1 hM hta hml
      generalize L[k].length = n at *
      go_wp2_with fail
      with_reducible refine HH.out.mono ?_
      rintro e w2 ⟨rfl, hb2⟩
      have H2 : Hid (Below w.heap.size w w2) := HW.out.trans (hb2.mono HW.out.size)
      clear hb2 HH
      go_wp2_with fail
      go_roundg (gk - 1)
      case measure => omega
      case rel => exact ⟨H2.out, k + 1, by omega, by rw [hts.out]; first | rfl | go_num, by go_num⟩
    · have hkl : k = L.length := by omega
      have HT : Hid (totL (L.take k) = totL L) := by unfold Hid; rw [hkl, List.take_length]
      clear hd hbw
      go_wp2_with fail
      go_ret
      exact ⟨by rw [HT.out]; rfl, HW.out⟩
end Go.Proofs.YtdijcdadcbhipaaDoor
