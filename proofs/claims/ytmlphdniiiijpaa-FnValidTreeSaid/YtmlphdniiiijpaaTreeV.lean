/-
  ValidTree and TreeItems of the program.
-/
import Derived.Test.YtmlphdniiiijpaaTreeM
import Derived.Test.YtmlphdniiiijpaaVRows
set_option linter.all false
namespace Go.Proofs.Ytmlphdniiiijpaa
open Go.RowKit
def szF (t : List (List Itm)) (k : Nat) : Prop := ∀ j (h : j < t.length), j < k → lowT t ≤ t[j].length ∧ t[j].length ≤ 4
theorem szF_s {t : List (List Itm)} {k : Nat} (h : szF t k) (hk : k < t.length) (h1 : lowT t ≤ t[k].length ∧ t[k].length ≤ 4) : szF t (k + 1) := fun j hj hjk => by
  rcases Nat.lt_or_ge j k with q | q
  · exact h j hj q
  · obtain rfl : j = k := by omega
    exact h1
theorem szF_bad {t : List (List Itm)} {k : Nat} (hk : k < t.length) (h1 : ¬ (lowT t ≤ t[k].length ∧ t[k].length ≤ 4)) : ¬ VT t := fun h => h1 (h.len _ (List.getElem_mem hk))
theorem VT_of {t : List (List Itm)} (h : szF t t.length) (hn : (flatT t).length ≤ 30) (ho : ordI (flatT t)) : VT t := ⟨fun f hf => by
  obtain ⟨i, hi, rfl⟩ := List.getElem_of_mem hf
  exact h i hi hi, hn, ho⟩
set_option maxHeartbeats 16000000 in
set_option maxRecDepth 100000 in
theorem validTree_any (v : Value) (t : List (List Itm)) (w : World) (h : Lvs w v t) (hn : (flatT t).length ≤ 1048576) :
    Calls Try.prog 14 #[.agg #[v]] w (BRet w (VT t)) := by
  have HLV := hide h
  obtain ⟨a, cap, rfl, hl, hcap, hd⟩ := h
  have HX0 := hide (blk_alloc w (.cells #[.slice a t.length cap] 25))
  have HB0 := hide (below_box w (.cells #[.slice a t.length cap] 25))
  have HLW : Hid (∃ low : Nat, low = lowT t) := ⟨_, rfl⟩
  go_enter Try.func14, Try.ntmps14
  have KEY : ∀ (low : Nat), low = lowT t → low ≤ 2 → Hid (low = lowT t) := fun low h _ => h
  obtain ⟨low, hlow, hlow2, htest⟩ : ∃ low : Nat, Hid (low = lowT t) ∧ low ≤ 2 ∧ ((((t.length : Int) == 1) = true ∧ low = 1) ∨ (((t.length : Int) == 1) = false ∧ low = 2)) := by
    by_cases h1 : t.length = 1
    · exact ⟨1, by unfold Hid lowT; rw [if_pos h1], by omega, .inl ⟨by simp [h1], rfl⟩⟩
    · exact ⟨2, by unfold Hid lowT; rw [if_neg h1], by omega, .inr ⟨by simp; omega, rfl⟩⟩
  clear KEY HLW
  rcases htest with ⟨ht, rfl⟩ | ⟨ht, rfl⟩
  all_goals
    go_wp2_with fail
    go_loopg [14] t.length (fun gk s14 wr => Below w.heap.size w wr ∧ wr.heap[w.heap.size]? = some (.cells #[.slice a t.length cap] 25 (0, 0)) ∧ ∃ k : Nat, k + gk = t.length ∧ s14 = .int .i64 (k : Int) ∧ szF t k)
    case atStart => exact ⟨HB0.out, HX0.out, 0, by omega, rfl, fun j _ hj => by omega⟩
    case round =>
      clear HB0 HX0
      obtain ⟨hbw, hbx, k, hk, rfl, hP⟩ := hrel
      have HW := hide hbw
      have HX := hide hbx
      have HP := hide hP
      clear hP hbx
      by_cases hlt : k < t.length
      · obtain ⟨b, off, rfl, hbb, hcell⟩ := hd.resolve_left (by rintro rfl; simp at hlt)
        obtain ⟨lv, e0, hlv, -⟩ := hcell k hlt
        have e0 := (hbw.cell hbb).trans e0
        obtain ⟨la, lc, rfl⟩ := itms_shape hlv
        have HS := hide (fun q => szF_s HP.out hlt q)
        have HBAD := hide (fun q => szF_bad (t := t) hlt q)
        rw [← hlow.out] at HS HBAD
        clear hcell hd hbw hlv
        obtain ⟨n, hnn⟩ : ∃ n, t[k].length = n := ⟨_, rfl⟩
        rw [hnn] at e0 HS HBAD
        clear hnn
        first
        | (by_cases hq1 : (n : Int) < 1
           · have dq1 : decide ((n : Int) < 1) = true := decide_eq_true hq1
             have HN := hide (HBAD.out (by omega))
             have hq1' := hide hq1
             have hn0 : n = 0 := by omega
             subst hn0
             clear hq1
             go_wp2_with fail
             go_ret
             exact bret_no HN.out HW.out
           · have dq1 : decide ((n : Int) < 1) = false := decide_eq_false hq1
             by_cases hq2 : (4 : Int) < (n : Int)
             · have dq2 : decide ((4 : Int) < (n : Int)) = true := decide_eq_true hq2
               have HN := hide (HBAD.out (by omega))
               clear hq1 hq2
               go_wp2_with fail
               go_ret
               exact bret_no HN.out HW.out
             · have dq2 : decide ((4 : Int) < (n : Int)) = false := decide_eq_false hq2
               have HN := hide (HS.out ⟨by omega, by omega⟩)
               clear hq1 hq2
               go_wp2_with fail
               go_roundg (gk - 1)
               case measure => omega
               case rel => exact ⟨HW.out, HX.out, k + 1, by omega, by go_num, HN.out⟩)
        | (by_cases hq1 : (n : Int) < 2
           · have dq1 : decide ((n : Int) < 2) = true := decide_eq_true hq1
             have HN := hide (HBAD.out (by omega))
             clear hq1
             go_wp2_with fail
             go_ret
             exact bret_no HN.out HW.out
           · have dq1 : decide ((n : Int) < 2) = false := decide_eq_false hq1
             by_cases hq2 : (4 : Int) < (n : Int)
             · have dq2 : decide ((4 : Int) < (n : Int)) = true := decide_eq_true hq2
               have HN := hide (HBAD.out (by omega))
               clear hq1 hq2
               go_wp2_with fail
               go_ret
               exact bret_no HN.out HW.out
             · have dq2 : decide ((4 : Int) < (n : Int)) = false := decide_eq_false hq2
               have HN := hide (HS.out ⟨by omega, by omega⟩)
               clear hq1 hq2
               go_wp2_with fail
               go_roundg (gk - 1)
               case measure => omega
               case rel => exact ⟨HW.out, HX.out, k + 1, by omega, by go_num, HN.out⟩)
      · have hkl : k = t.length := by omega
        subst hkl
        have hbs := lt_block HX.out
        have c0 := cell_block HX.out 0
        have HCN := hide (concat_any _ t wr (HLV.out.keep HW.out) hn)
        clear hd hbw
        go_wp2_with fail
        refine HCN.out.mono ?_
        rintro e w2 ⟨v2, rfl, ho, hb⟩
        have H2 : Hid (Below w.heap.size w w2) := HW.out.trans (hb.mono HW.out.size)
        have HIO := hide (inOrder_any v2 _ w2 ho.itms)
        obtain ⟨va, vc, rfl, -⟩ := own_slc ho
        clear hb ho HCN c0
        by_cases hq : ((flatT t).length : Int) ≤ 30
        · have dq : decide (((flatT t).length : Int) ≤ 30) = true := decide_eq_true hq
          have HQ : Hid ((flatT t).length ≤ 30) := by unfold Hid; omega
          clear hq
          go_wp2_with fail
          refine HIO.out.mono ?_
          rintro e w3 ⟨q, rfl, hv, hb⟩
          have H3 : Hid (Below w.heap.size w w3) := H2.out.trans (hb.mono H2.out.size)
          have HR : Hid (q = true ↔ VT t) := ⟨fun hq => VT_of HP.out HQ.out (hv.1 hq), fun h => hv.2 h.ord⟩
          clear hb hv HIO
          go_wp2_with fail
          go_ret
          exact ⟨q, rfl, HR.out, H3.out⟩
        · have dq : decide (((flatT t).length : Int) ≤ 30) = false := decide_eq_false hq
          have HN : Hid (¬ VT t) := fun h => by have := h.n; omega
          clear hq
          go_wp2_with fail
          go_ret
          exact bret_no HN.out H2.out
def TIOf (t : List (List Itm)) (r : List Itm) : Prop := (VT t → r = flatT t) ∧ (¬ VT t → r = [])
set_option maxHeartbeats 8000000 in
theorem treeItems_any (v : Value) (t : List (List Itm)) (w : World) (h : Lvs w v t) (hn : (flatT t).length ≤ 1048576) :
    Calls Try.prog 17 #[.agg #[v]] w (fun e w' => ∃ v' r, e = .returned v' ∧ TIOf t r ∧ OwnI w.heap.size w' v' r ∧ Below w.heap.size w w') := by
  have HLV := hide h
  obtain ⟨a, cap, rfl, -⟩ := h
  have HX0 := hide (blk_alloc w (.cells #[.slice a t.length cap] 25))
  have HB0 := hide (below_box w (.cells #[.slice a t.length cap] 25))
  have HV := hide (validTree_any (.slice a t.length cap) t _ (HLV.out.keep HB0.out) hn)
  go_enter Try.func17, Try.ntmps17
  go_wp2_with fail
  refine HV.out.mono ?_
  rintro e w2 ⟨q, rfl, hv, hb⟩
  have H2 : Hid (Below w.heap.size w w2) := HB0.out.trans (hb.mono HB0.out.size)
  have HX := hide (blk_own hb HX0.out)
  have HVV := hide hv
  have hbs := lt_block HX.out
  have c0 := cell_block HX.out 0
  have HCN := hide (concat_any _ t w2 (HLV.out.keep H2.out) hn)
  clear hb hv HV HX0 HB0
  cases q with
  | false =>
    have HN : Hid (¬ VT t) := fun h => by have := HVV.out.2 h; cases this
    go_wp2_with fail
    go_ret
    exact ⟨_, [], rfl, ⟨fun h => absurd h HN.out, fun _ => rfl⟩, World.ownsRow_nil _ _ _ _, H2.out⟩
  | true =>
    have HY : Hid (VT t) := HVV.out.1 rfl
    go_wp2_with fail
    refine HCN.out.mono ?_
    rintro e w3 ⟨v3, rfl, ho, hb⟩
    have H3 : Hid (Below w.heap.size w w3) := H2.out.trans (hb.mono H2.out.size)
    have HO : Hid (OwnI w.heap.size w3 v3 (flatT t)) := own_mono ho H2.out.size
    clear hb ho HCN
    go_wp2_with fail
    go_ret
    exact ⟨v3, _, rfl, ⟨fun _ => rfl, fun h => absurd HY.out h⟩, HO.out, H3.out⟩
end Go.Proofs.Ytmlphdniiiijpaa
