/-
  slices.BinarySearchFunc at items, by an item.
-/
import Derived.Test.YtmlphdniiiijpaaBsf
set_option linter.all false
namespace Go.Proofs.Ytmlphdniiiijpaa
open Go.RowKit
def BsI (l : List Itm) (x : Itm) (i j : Nat) : Prop := (∀ t (ht : t < l.length), t < i → lessP l[t] x) ∧ (∀ t (ht : t < l.length), j ≤ t → ¬ lessP l[t] x)
theorem BsI.low {l : List Itm} {x : Itm} {i j m : Nat} (hA : SrtI l) (h : BsI l x i j) (hm : m < l.length) (hlt : lessP l[m] x) : BsI l x (m + 1) j :=
  ⟨fun t ht htm => by
    by_cases c : t = m
    · subst c; exact hlt
    · exact lessP_trans (List.pairwise_iff_getElem.1 hA t m ht hm (by omega)) hlt, h.2⟩
theorem BsI.high {l : List Itm} {x : Itm} {i j m : Nat} (hA : SrtI l) (h : BsI l x i j) (hm : m < l.length) (hge : ¬ lessP l[m] x) : BsI l x i m :=
  ⟨h.1, fun t ht htm => by
    by_cases c : t = m
    · subst c; exact hge
    · exact fun hq => hge (lessP_trans (List.pairwise_iff_getElem.1 hA m t hm ht (by omega)) hq)⟩
theorem BsI.fin {l : List Itm} {x : Itm} {i : Nat} (hA : SrtI l) (h : BsI l x i i) (hi : i ≤ l.length) : posI l x = i ∧ (hasI l x = true ↔ ∃ hk : i < l.length, l[i] = x) := by
  have hp := posI_of x hi h.1 h.2
  refine ⟨hp, ?_⟩
  have := hasI_of hA x
  rw [this]
  subst hp
  exact Iff.rfl
theorem cmpI_neg (a b : Itm) : cmpI a b < 0 ↔ lessP a b := by
  unfold lessP
  rw [cmpI_less]
  simp
theorem cmpI_zero (a b : Itm) : cmpI a b = 0 ↔ a = b := by
  obtain ⟨a1, a2⟩ := a
  obtain ⟨b1, b2⟩ := b
  unfold cmpI cmpZ
  simp only [Itm.mk.injEq]
  split <;> split <;> (try split) <;> (try split) <;> omega
set_option maxHeartbeats 8000000 in
theorem bsI_any (v : Value) (l : List Itm) (x : Itm) (w : World) (h : Itms w v l) (hA : SrtI l) (hl1000 : l.length ≤ 1000) :
    Calls Try.prog 54 #[v, .agg #[.int .i64 x.k, .int .i64 x.r], .func (.func 55) #[] #[]] w (BsRet w (posI l x) (hasI l x)) := by
  have hbx : Below w.heap.size w (w.alloc (.cells #[.int .i64 x.k, .int .i64 x.r] 38)) := below_box _ _
  have hblk := hide (blk_alloc w (.cells #[.int .i64 x.k, .int .i64 x.r] 38))
  have HX := hide hbx
  have h := h.keep hbx
  obtain ⟨a, cap, rfl, hl, hcap, hd⟩ := h
  have HA := hide hA
  obtain ⟨P, hP⟩ : ∃ P, posI l x = P := ⟨_, rfl⟩
  obtain ⟨B, hB⟩ : ∃ B, hasI l x = B := ⟨_, rfl⟩
  rw [hP, hB]
  have HP := hide hP
  have HB := hide hB
  clear hP hB hA hbx
  go_enter Try.func54, Try.ntmps54
  go_wp2_with fail
  generalize hW : w.alloc (.cells #[.int .i64 x.k, .int .i64 x.r] 38) = W at *
  generalize hg : w.heap.size = g at *
  clear hW
  have hgW : g ≤ W.heap.size := hg ▸ HX.out.size
  go_loopg [9, 10] l.length (fun gk s9 s10 wr => Below W.heap.size W wr ∧ ∃ i j : Nat, s9 = .int .i64 (i : Int) ∧ s10 = .int .i64 (j : Int) ∧ i ≤ j ∧ j ≤ l.length ∧ j - i ≤ gk ∧ BsI l x i j)
  case atStart => exact ⟨Below.refl _ _, 0, l.length, rfl, rfl, by omega, by omega, by omega, fun t _ ht => by omega, fun t ht ht' => by omega⟩
  case round =>
    obtain ⟨hbw, i, j, rfl, rfl, hij, hjl, hgk, hbs⟩ := hrel
    have HW := hide hbw
    have HS := hide hbs
    have hgb := blk_own hbw hblk.out
    have t0 := fun z : BW wr => bw_cell (p := ⟨g, 0, none⟩) (lt_block hgb) (cell_block hgb 0) z
    have t1 := fun z : BW wr => bw_cell (p := ⟨g, 1, none⟩) (lt_block hgb) (cell_block hgb 1) z
    simp at t0 t1
    clear hbs hgb
    by_cases hlt : i < j
    · obtain ⟨b, off, rfl, hbb, hcell⟩ := hd.resolve_left (by rintro rfl; simp at hjl; omega)
      obtain ⟨hm1, hm2⟩ := half_lt hlt
      obtain ⟨m, hm⟩ : ∃ m, (i + j) / 2 = m := ⟨_, rfl⟩
      rw [hm] at hm1 hm2
      have em : ((i : Int) + (j : Int)) / 2 = (m : Int) := by omega
      have hml : m < l.length := by omega
      have E := (hcell m hml).keep hbw
      have lb := Nat.lt_of_lt_of_le hbb hbw.size
      have e0 := fun z : BW wr => bw_cell (p := ⟨b, off + m * 2, none⟩) lb E.1 z
      have e1 := fun z : BW wr => bw_cell (p := ⟨b, off + m * 2 + 1, none⟩) lb E.2 z
      have LOW := hide (fun h => HS.out.low HA.out hml h)
      have HIGH := hide (fun h => HS.out.high HA.out hml h)
      clear hm hcell hd hbw HS lb hbb E
      generalize l[m] = y at *
      by_cases hq : cmpI y x < 0
      · have dq : decide (cmpI y x < 0) = true := decide_eq_true hq
        have HQ := hide ((cmpI_neg y x).1 hq)
        clear hq
        go_wp2_with fail
        refine wp_region_bw (by kernel_rfl) (by kernel_rfl) ?_
        repeat (go_big_quiet_step (first | (go_at_call 55; with_reducible exact bw_of (compareItems_any y x _))))
        refine wpQuiet_nil ?_
        rintro _ ⟨z, rfl⟩
        have H1 : Hid (Below W.heap.size W z.v) := HW.out.trans (z.h.mono HW.out.size)
        go_wp2_with fail
        go_roundg (j - (m + 1))
        case measure => omega
        case rel => exact ⟨H1.out, m + 1, j, by go_num, rfl, by omega, hjl, Nat.le_refl _, LOW.out HQ.out⟩
      · have dq : decide (cmpI y x < 0) = false := decide_eq_false hq
        have HQ := hide (fun h => hq ((cmpI_neg y x).2 h))
        clear hq
        go_wp2_with fail
        refine wp_region_bw (by kernel_rfl) (by kernel_rfl) ?_
        repeat (go_big_quiet_step (first | (go_at_call 55; with_reducible exact bw_of (compareItems_any y x _))))
        refine wpQuiet_nil ?_
        rintro _ ⟨z, rfl⟩
        have H1 : Hid (Below W.heap.size W z.v) := HW.out.trans (z.h.mono HW.out.size)
        go_wp2_with fail
        go_roundg (m - i)
        case measure => omega
        case rel => exact ⟨H1.out, i, m, rfl, by first | rfl | go_num, by omega, by omega, Nat.le_refl _, HIGH.out HQ.out⟩
    · obtain rfl : j = i := by omega
      have FN := hide (HS.out.fin HA.out hjl)
      by_cases hil : j < l.length
      · obtain ⟨b, off, rfl, hbb, hcell⟩ := hd.resolve_left (by rintro rfl; simp at hil)
        have E := (hcell j hil).keep hbw
        have lb := Nat.lt_of_lt_of_le hbb hbw.size
        have e0 := fun z : BW wr => bw_cell (p := ⟨b, off + j * 2, none⟩) lb E.1 z
        have e1 := fun z : BW wr => bw_cell (p := ⟨b, off + j * 2 + 1, none⟩) lb E.2 z
        have FB : Hid (hasI l x = true ↔ l[j] = x) := ⟨fun h => (FN.out.2.1 h).2, fun h => FN.out.2.2 ⟨hil, h⟩⟩
        clear hcell hd hbw HS lb hbb E
        generalize l[j] = y at *
        have dj : decide (j < l.length) = true := decide_eq_true hil
        by_cases hq : cmpI y x = 0
        · have dq : (cmpI y x == 0) = true := by simpa using hq
          have HQ := hide ((cmpI_zero y x).1 hq)
          clear hq
          have hp : P = j := HP.out.symm.trans FN.out.1
          have hb : B = true := HB.out.symm.trans (FB.out.2 HQ.out)
          subst hp
          subst hb
          go_wp2_with fail
          refine wp_region_bw (by kernel_rfl) (by kernel_rfl) ?_
          repeat (go_big_quiet_step (first | (go_at_call 55; with_reducible exact bw_of (compareItems_any y x _))))
          refine wpQuiet_nil ?_
          rintro _ ⟨z, rfl⟩
          have H1 : Hid (Below g w z.v) := HX.out.trans ((HW.out.trans (z.h.mono HW.out.size)).mono hgW)
          go_wp2_with fail
          go_ret2
          exact ⟨rfl, hg ▸ H1.out⟩
        · have dq : (cmpI y x == 0) = false := by simpa using hq
          have HQ := hide (fun h => hq ((cmpI_zero y x).2 h))
          clear hq
          have hp : P = j := HP.out.symm.trans FN.out.1
          have hb : B = false := by
            rw [← HB.out]
            cases hc : hasI l x with
            | false => rfl
            | true => exact absurd (FB.out.1 hc) HQ.out
          subst hp
          subst hb
          go_wp2_with fail
          refine wp_region_bw (by kernel_rfl) (by kernel_rfl) ?_
          repeat (go_big_quiet_step (first | (go_at_call 55; with_reducible exact bw_of (compareItems_any y x _))))
          refine wpQuiet_nil ?_
          rintro _ ⟨z, rfl⟩
          have H1 : Hid (Below g w z.v) := HX.out.trans ((HW.out.trans (z.h.mono HW.out.size)).mono hgW)
          go_wp2_with fail
          go_ret2
          exact ⟨rfl, hg ▸ H1.out⟩
      · clear hd hbw
        have hp : P = j := HP.out.symm.trans FN.out.1
        have hb : B = false := by
          rw [← HB.out]
          cases hc : hasI l x with
          | false => rfl
          | true => obtain ⟨hk, _⟩ := FN.out.2.1 hc; omega
        have H1 : Hid (Below g w wr) := HX.out.trans (HW.out.mono hgW)
        subst hp
        subst hb
        have dj : decide (P < l.length) = false := decide_eq_false hil
        go_wp2_with fail
        go_quiet (fail)
        go_wp2_with fail
        go_ret2
        exact ⟨rfl, hg ▸ below_drewN H1.out _⟩
end Go.Proofs.Ytmlphdniiiijpaa
