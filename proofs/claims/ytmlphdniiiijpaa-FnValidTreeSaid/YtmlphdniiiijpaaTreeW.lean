/-
  divided and with of the program: leaves in place of others.
-/
import Derived.Test.YtmlphdniiiijpaaTreeO
import Derived.Test.YtmlphdniiiijpaaQuiet
import Derived.Deep.RegionLaw
set_option linter.all false
namespace Go.Proofs.Ytmlphdniiiijpaa
open Go.RowKit
theorem ownL_block {B b : Nat} {W : World} {ys : List Value} {gs : List (List Itm)} (hb : b = W.heap.size) (hB : B ≤ W.heap.size) (hx : LvsX B W ys gs) (hn : gs.length ≤ 1000) :
    OwnL B (W.alloc (.cells ys.toArray 28)) (.slice (some ⟨b, 0, none⟩) gs.length gs.length) gs := by
  subst hb
  refine ⟨ys, own_of hB (blk_alloc W _) (by simp [hx.len]) (by unfold maxLen; omega) (Nat.le_refl _) (by rw [hx.len]; omega) (fun j _ => by simp), hx.keep (below_box W _), fun i lv e k h1 h2 => ?_⟩
  have h2 : W.heap.size = k := by simpa [Value.ownBlock] using h2
  have := (hx.lt e h1).2
  omega
theorem lvs_two {B : Nat} {w1 w2 : World} {a b : Value} {f g : List Itm} (h1 : OwnI B w1 a f) (hb : Below w1.heap.size w1 w2) (h2 : OwnI w1.heap.size w2 b g) (hB : B ≤ w1.heap.size) : LvsX B w2 [a, b] [f, g] ∧ LvsX B w2 [b, a] [g, f] := by
  have ha : Apart a b := fun k e1 e2 => by
    have := (World.ownsRow.lt h1 k e1).2
    have := (World.ownsRow.lt h2 k e2).1
    omega
  have ha' : Apart b a := fun k e1 e2 => ha k e2 e1
  constructor
  · refine ⟨rfl, fun i hi => ?_, fun i j lv lu hij e1 e2 => ?_⟩
    · match i, hi with
      | 0, _ => exact ⟨a, rfl, h1.keep hb⟩
      | 1, _ => exact ⟨b, rfl, own_mono h2 hB⟩
    · have hj : j < 2 := (List.getElem?_eq_some_iff.1 e2).1
      obtain rfl : i = 0 := by omega
      obtain rfl : j = 1 := by omega
      injection e1 with e1; injection e2 with e2; subst e1 e2; exact ha
  · refine ⟨rfl, fun i hi => ?_, fun i j lv lu hij e1 e2 => ?_⟩
    · match i, hi with
      | 0, _ => exact ⟨b, rfl, own_mono h2 hB⟩
      | 1, _ => exact ⟨a, rfl, h1.keep hb⟩
    · have hj : j < 2 := (List.getElem?_eq_some_iff.1 e2).1
      obtain rfl : i = 0 := by omega
      obtain rfl : j = 1 := by omega
      injection e1 with e1; injection e2 with e2; subst e1 e2; exact ha'
/-- what a call that returns new leaves hands back -/
def LvRet (w : World) (fs : List (List Itm)) (e : Ending) (w' : World) : Prop := ∃ v', e = .returned v' ∧ OwnL w.heap.size w' v' fs ∧ Below w.heap.size w w'
theorem itms_part {w : World} {a : Option Addr} {n cap : Nat} {l : List Itm} (h : Itms w (.slice a n cap) l) {i m : Nat} (hm : i + m ≤ l.length) (hpos : 0 < m) :
    ∃ b off, a = some ⟨b, off, none⟩ ∧ Itms w (.slice (some ⟨b, off + i * 2, none⟩) m (cap - i)) ((l.drop i).take m) := by
  obtain ⟨a', c', he, h1, h2, hd⟩ := h
  injection he with he hn hc
  subst he; subst hn; subst hc
  rcases hd with hd | ⟨b, off, rfl, hb2, hb3⟩
  · rw [hd] at hm; simp at hm; omega
  · have hl : ((l.drop i).take m).length = m := by rw [List.length_take, List.length_drop]; omega
    refine ⟨b, off, rfl, _, cap - i, by rw [hl], by rw [hl]; omega, by omega, .inr ⟨b, off + i * 2, rfl, hb2, fun j hj => ?_⟩⟩
    rw [hl] at hj
    have q := hb3 (i + j) (by omega)
    rw [List.getElem_take, List.getElem_drop, show off + i * 2 + j * 2 = off + (i + j) * 2 by omega]
    exact q
set_option maxHeartbeats 8000000 in
theorem divided_any (v : Value) (f : List Itm) (w : World) (h : Itms w v f) (hn : f.length ≤ 1000) :
    Calls Try.prog 75 #[v] w (LvRet w (divL f)) := by
  have HI := hide h
  have HC := hide (fun z (hz : Below w.heap.size w z) => cloneI_any v f z (h.keep hz) (by omega))
  obtain ⟨a, cap, rfl, hl, hcap, -⟩ := h
  obtain ⟨R, hR⟩ : ∃ R, R = divL f := ⟨_, rfl⟩
  rw [← hR]
  have HR := hide hR
  clear hR
  by_cases h0 : f.length = 0
  · have HE : Hid (R = []) := by unfold Hid; rw [HR.out]; unfold divL; rw [if_pos h0]
    go_enter Try.func75, Try.ntmps75
    go_wp2_with fail
    go_ret
    rw [HE.out]
    exact ⟨_, rfl, OwnL.nil _ _, Below.refl _ _⟩
  · have d0 : ((f.length : Int) == 0) = false := beq_false_of_ne (by omega)
    by_cases h4 : f.length ≤ 4
    · have d4 : decide ((f.length : Int) ≤ 4) = true := decide_eq_true (by omega)
      have HE : Hid (R = [f]) := by unfold Hid; rw [HR.out]; unfold divL; rw [if_neg h0, if_pos h4]
      go_enter Try.func75, Try.ntmps75
      go_wp2_with fail
      refine (HC.out _ (Below.refl _ _)).mono ?_
      rintro e w1 ⟨v1, rfl, ho, hb⟩
      have H1 := hide hb
      have HO := hide ho
      obtain ⟨a1, c1, rfl, -⟩ := own_slc ho
      clear ho hb
      go_wp2_with fail
      go_ret
      rw [HE.out]
      exact ⟨_, rfl, ownL_block (ys := [.slice a1 f.length c1]) (by simp) H1.out.size (LvsX.one HO.out) (by simp), H1.out.alloc H1.out.size _⟩
    · have d4 : decide ((f.length : Int) ≤ 4) = false := decide_eq_false (by omega)
      obtain ⟨k, hk⟩ : ∃ k, f.length / 2 = k := ⟨_, rfl⟩
      obtain ⟨m, hm⟩ : ∃ m, f.length = k + m := ⟨f.length - k, by omega⟩
      have HE : Hid (R = [f.take k, f.drop k]) := by unfold Hid; rw [HR.out]; unfold divL; rw [if_neg h0, if_neg h4, hk]
      have hk0 : 0 < k := by omega
      have hm0 : 0 < m := by omega
      have hq : (f.length : Int).tdiv 2 = (k : Int) := by rw [← hk]; rfl
      have hq' : (f.length : Int) / 2 = (k : Int) := by omega
      obtain ⟨b, off, rfl, hI1⟩ := itms_part (i := 0) (m := k) HI.out (by omega) hk0
      obtain ⟨b', off', he, hI2⟩ := itms_part (i := k) (m := m) HI.out (by omega) hm0
      injection he with he
      injection he with he1 he2 _
      subst he1; subst he2
      rw [List.drop_zero, Nat.zero_mul, Nat.add_zero, Nat.sub_zero] at hI1
      rw [List.take_of_length_le (by rw [List.length_drop]; omega)] at hI2
      have HC1 := hide (fun z (hz : Below w.heap.size w z) => cloneI_any _ _ z (hI1.keep hz) (by rw [List.length_take]; omega))
      have HC2 := hide (fun z (hz : Below w.heap.size w z) => cloneI_any _ _ z (hI2.keep hz) (by rw [List.length_drop]; omega))
      have HD : Hid (Below w.heap.size w w.drew) := (Below.refl _ _).drew
      have hl1 : (f.take k).length = k := by rw [List.length_take]; omega
      have hl2 : (f.drop k).length = m := by rw [List.length_drop]; omega
      obtain ⟨n, hnn⟩ : ∃ n, f.length = n := ⟨_, rfl⟩
      rw [hnn] at hl d0 d4 hq hq' hm hn
      rw [hnn]
      clear hI1 hI2 hk HI h0 h4 HC hnn
      generalize f.take k = f1 at *
      generalize f.drop k = f2 at *
      subst hl1
      subst hl2
      have hnm : n - f1.length = f2.length := by omega
      have s1 : (f1.length : Int) ≤ (n : Int) := by omega
      have s3 : ¬ cap = f1.length := by omega
      have s4 : f1.length ≤ cap := by omega
      have HL := hide hm
      clear hm
      go_enter Try.func75, Try.ntmps75
      go_wp2_with fail
      go_region_law (first
        | (go_simp; go_at_call 43; (with_reducible refine (HC1.out _ (by first | exact HD.out | exact HB2.out)).mono ?_); rintro e w3 ⟨v3, rfl, ho, hb⟩; have HO1 := hide ho; have HN1 := hide hb; have HB1 : Hid (Below w.heap.size w w3) := (by first | exact HD.out.trans hb | exact HB2.out.trans (hb.mono HB2.out.size)); obtain ⟨a3, c3, rfl, -⟩ := own_slc ho; clear ho hb)
        | (go_simp; go_at_call 43; (with_reducible refine (HC2.out _ (by first | exact HD.out | exact HB1.out)).mono ?_); rintro e w4 ⟨v4, rfl, ho, hb⟩; have HO2 := hide ho; have HN2 := hide hb; have HB2 : Hid (Below w.heap.size w w4) := (by first | exact HD.out.trans hb | exact HB1.out.trans (hb.mono HB1.out.size)); obtain ⟨a4, c4, rfl, -⟩ := own_slc ho; clear ho hb))
      all_goals
        have HX := hide (lvs_two HO1.out HN2.out HO2.out HB1.out.size).1
        have HF : Hid (Below w.heap.size w (w4.alloc (.cells #[.slice a3 f1.length c3, .slice a4 f2.length c4] 28))) := HB2.out.alloc HB2.out.size _
        go_wp2_with fail
        go_ret
        rw [HE.out]
        exact ⟨_, rfl, ownL_block (ys := [.slice a3 f1.length c3, .slice a4 f2.length c4]) (by simp) HB2.out.size (HX.out.mono (Nat.le_refl _)) (by simp), HF.out⟩
end Go.Proofs.Ytmlphdniiiijpaa
