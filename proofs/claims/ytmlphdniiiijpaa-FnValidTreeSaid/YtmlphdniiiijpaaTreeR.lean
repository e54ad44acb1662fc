/-
  TreeRange of the program and of the specification.
-/
import Derived.Test.YtmlphdniiiijpaaTreeS2
set_option linter.all false
namespace Go.Proofs.Ytmlphdniiiijpaa
open Go.RowKit
def inK (a b : Int) (y : Itm) : Bool := decide (a ≤ y.k ∧ y.k ≤ b)
def RngOf (t : List (List Itm)) (a b : Int) (r : List Itm) : Prop := (VT t → r = (flatT t).filter (inK a b)) ∧ (¬ VT t → r = [])
theorem ownI_any {B size n : Nat} {e : TypeId} {w : World} {v : Value} {xs : List Value} (h : w.ownsRow B e size v n xs) : ∃ a n c, v = .slice a n c := by
  obtain ⟨a, c, e, -⟩ := own_slc h
  exact ⟨a, _, c, e⟩
theorem one_itms {w : World} {g : Nat} {x : Itm} {ty : TypeId} (h : w.heap[g]? = some (.cells #[.int .i64 x.k, .int .i64 x.r] ty (0, 0))) : Itms w (.slice (some ⟨g, 0, none⟩) 1 1) [x] :=
  ⟨_, 1, rfl, Nat.le_refl 1, by omega, .inr ⟨g, 0, rfl, lt_block h, fun i hi => by
    have : i = 0 := by simp at hi; exact hi
    subst this
    exact ⟨by rw [cell_block h]; rfl, by rw [cell_block h]; rfl⟩⟩⟩
set_option maxHeartbeats 16000000 in
theorem treeRange_any (v : Value) (t : List (List Itm)) (lo hi : Int) (w : World) (h : Lvs w v t) (hn : (flatT t).length ≤ 1048576) :
    Calls Try.prog 19 #[.agg #[v], .int .i64 lo, .int .i64 hi] w (fun e w' => ∃ v' r, e = .returned v' ∧ RngOf t lo hi r ∧ OwnI w.heap.size w' v' r ∧ Below w.heap.size w w') := by
  have HLV := hide h
  obtain ⟨a, cap, rfl, -⟩ := h
  have HB0 := hide (below_box w (.cells #[.slice a t.length cap] 25))
  have HV := hide (treeItems_any (.slice a t.length cap) t _ (HLV.out.keep HB0.out) hn)
  go_enter Try.func19, Try.ntmps19
  go_wp2_with fail
  refine HV.out.mono ?_
  rintro e w2 ⟨v2, l, rfl, hti, ho, hb⟩
  have H2 : Hid (Below w.heap.size w w2) := HB0.out.trans (hb.mono HB0.out.size)
  have HTI := hide hti
  have hl30 : l.length ≤ 30 := by
    by_cases c : VT t
    · rw [hti.1 c]; exact c.n
    · rw [hti.2 c]; exact Nat.zero_le _
  have HI := hide ho.itms
  obtain ⟨ia, ic, rfl, -⟩ := own_slc ho
  clear hb ho hti HV HB0
  obtain ⟨_, _, he, hl1, hl2, hd⟩ := HI.out
  injection he with he1 _ he2
  subst he1; subst he2
  go_wp2_with fail
  go_loopg [7, 13] l.length (fun gk s7 s13 wr => Below w2.heap.size w2 wr ∧ ∃ k : Nat, k + gk = l.length ∧ s13 = .int .i64 (k : Int) ∧ OwnI w2.heap.size wr s7 ((l.take k).filter (inK lo hi)))
  case atStart => exact ⟨Below.refl _ _, 0, by omega, rfl, World.ownsRow_nil _ _ _ _⟩
  case round =>
    obtain ⟨hbw, k, hk, rfl, hown⟩ := hrel
    have HW := hide hbw
    have HO := hide hown
    obtain ⟨oa, on, oc, rfl⟩ := ownI_any hown
    clear hown
    by_cases hlt : k < l.length
    · obtain ⟨b, off, rfl, hbb, hcell⟩ := hd.resolve_left (by rintro rfl; simp at hlt)
      have E := hide ((hcell k hlt).keep hbw)
      obtain ⟨e0, e1⟩ := E.out
      have HT := hide (take_filterI hlt (inK lo hi))
      have hfl : ((l.take k).filter (inK lo hi)).length ≤ k := Nat.le_trans (List.length_filter_le _ _) (by rw [List.length_take]; omega)
      clear hcell hd hbw
      generalize l[k] = y at *
      obtain ⟨L0, hL0⟩ : ∃ L0, ((l.take k).filter (inK lo hi)) = L0 := ⟨_, rfl⟩
      obtain ⟨L1, hL1⟩ : ∃ L1, ((l.take (k + 1)).filter (inK lo hi)) = L1 := ⟨_, rfl⟩
      have HF0 : Hid (inK lo hi y = false → L1 = L0) := fun hp => by rw [← hL0, ← hL1, HT.out, hp]; simp
      have HF1 : Hid (inK lo hi y = true → L1 = L0 ++ [y]) := fun hp => by rw [← hL0, ← hL1, HT.out, hp]; simp
      have HL1 := hide hL1
      rw [hL0] at HO hfl
      clear hL0 hL1 HT
      have HX := hide (blk_alloc wr (.cells #[.int .i64 y.k, .int .i64 y.r] 38))
      have HK := hide (below_box wr (.cells #[.int .i64 y.k, .int .i64 y.r] 38))
      have x0 := cell_block HX.out 0
      have x1 := cell_block HX.out 1
      have HK2 := hide (below_box2 wr (.cells #[.int .i64 y.k, .int .i64 y.r] 38) (.cells #[.int .i64 y.k, .int .i64 y.r] 38))
      have HIT := hide (one_itms (x := y) (blk_at (W := wr.alloc (.cells #[.int .i64 y.k, .int .i64 y.r] 38)) (b := wr.heap.size + 1) (by simp) (.cells #[.int .i64 y.k, .int .i64 y.r] 38)))
      have hws := HW.out.size
      by_cases hq1 : lo ≤ y.k
      · by_cases hq2 : y.k ≤ hi
        · have HF := hide (HF1.out (decide_eq_true ⟨hq1, hq2⟩))
          clear HF0 HF1
          go_wp2_with (at_builtin; refine wpList_appI rfl (.tmp 27) (.tmp 29) rfl w2.heap.size _ L0 rfl (HO.out.keep HK2.out) (by omega) (.slice (some ⟨wr.heap.size + 1, 0, none⟩) 1 1) [y] rfl HIT.out nilOk_some (by simp) (by have := HK2.out.size; omega) ?next)
          case next =>
            intro v3 w3 ho hg
            have H3 : Hid (Below w2.heap.size w2 w3) := (HW.out.trans (HK2.out.mono hws)).grown hg (by have := HK2.out.size; omega) (fun q hq => (World.ownsRow.lt HO.out q hq).1)
            rw [← HF.out] at ho
            have HO3 := hide ho
            clear ho hg x0 x1
            go_wp2_with fail
            go_roundg (gk - 1)
            case measure => omega
            case rel => exact ⟨H3.out, k + 1, by omega, by go_num, by rw [HL1.out]; exact HO3.out⟩
        · have HF := hide (HF0.out (decide_eq_false (fun h => hq2 h.2)))
          clear HF0 HF1
          go_wp2_with fail
          go_roundg (gk - 1)
          case measure => omega
          case rel => exact ⟨HW.out.trans (HK.out.mono hws), k + 1, by omega, by go_num, by rw [HL1.out, HF.out]; exact HO.out.keep HK.out⟩
      · have HF := hide (HF0.out (decide_eq_false (fun h => hq1 h.1)))
        clear HF0 HF1
        go_wp2_with fail
        go_roundg (gk - 1)
        case measure => omega
        case rel => exact ⟨HW.out.trans (HK.out.mono hws), k + 1, by omega, by go_num, by rw [HL1.out, HF.out]; exact HO.out.keep HK.out⟩
    · have hkl : k = l.length := by omega
      subst hkl
      rw [List.take_length] at HO
      have HR : Hid (RngOf t lo hi (l.filter (inK lo hi))) := ⟨fun h => by rw [HTI.out.1 h], fun h => by rw [HTI.out.2 h]; rfl⟩
      clear hd hbw
      go_wp2_with fail
      go_ret
      exact ⟨_, _, rfl, HR.out, own_mono HO.out H2.out.size, H2.out.trans (HW.out.mono H2.out.size)⟩
set_option maxHeartbeats 16000000 in
theorem streeRange_any (v : Value) (t : List (List Itm)) (lo hi : Int) (w : World) (h : Lvs w v t) (hn : (flatT t).length ≤ 1048576) :
    Calls Try.prog 21 #[.agg #[v], .int .i64 lo, .int .i64 hi] w (fun e w' => ∃ v' r, e = .returned v' ∧ RngOf t lo hi r ∧ OwnI w.heap.size w' v' r ∧ Below w.heap.size w w') := by
  have HLV := hide h
  obtain ⟨a, cap, rfl, -⟩ := h
  have HB0 := hide (below_box2 w (.cells #[.slice a t.length cap] 25) (.cells #[] 38))
  have HX0 := hide (blk_keep (blk_alloc w (.cells #[.slice a t.length cap] 25)) (.cells #[] 38))
  have HO0 : Hid (OwnI w.heap.size ((w.alloc (.cells #[.slice a t.length cap] 25)).alloc (.cells #[] 38)) (.slice (some ⟨w.heap.size + 1, 0, none⟩) 0 0) []) := own_lit_at (by simp) (by simp <;> omega)
  have HV := hide (svalidTree_any (.slice a t.length cap) t _ (HLV.out.keep HB0.out) hn)
  go_enter Try.func21, Try.ntmps21
  go_wp2_with fail
  refine HV.out.mono ?_
  rintro e w1 ⟨q, rfl, hv, hb⟩
  have H1 : Hid (Below w.heap.size w w1) := HB0.out.trans (hb.mono HB0.out.size)
  have HX1 := hide (blk_own hb HX0.out)
  have HO1 := hide (HO0.out.keep hb)
  have HVV := hide hv
  have hbs := lt_block HX1.out
  have c0 := cell_block HX1.out 0
  have HFL := hide (sflat_any _ t w1 (HLV.out.keep H1.out) hn)
  clear hb hv HV HX0 HO0 HB0
  cases q with
  | false =>
    have HN : Hid (¬ VT t) := fun h => by have := HVV.out.2 h; cases this
    go_wp2_with fail
    go_ret
    exact ⟨_, [], rfl, ⟨fun h => absurd h HN.out, fun _ => rfl⟩, World.ownsRow_nil _ _ _ _, H1.out⟩
  | true =>
    have HY : Hid (VT t) := HVV.out.1 rfl
    go_wp2_with fail
    refine HFL.out.mono ?_
    rintro e w2 ⟨v2, rfl, ho, hb⟩
    have H2 : Hid (Below w.heap.size w w2) := H1.out.trans (hb.mono H1.out.size)
    have HO2 := hide (HO1.out.keep hb)
    have hbs1 := (World.ownsRow.lt HO1.out (w.heap.size + 1) rfl).2
    have HI := hide ho.itms
    obtain ⟨ia, ic, rfl, -⟩ := own_slc ho
    have hl30 := HY.out.n
    obtain ⟨l, hl⟩ : ∃ l, flatT t = l := ⟨_, rfl⟩
    have HL := hide hl
    rw [hl] at HI hl30 ⊢
    have HBL : Hid (∀ q, (Value.slice ia l.length ic).ownBlock = some q → w1.heap.size ≤ q ∧ q < w2.heap.size) := fun q hq => by rw [hl] at ho; exact World.ownsRow.lt ho q hq
    have hw12 := hb.size
    obtain ⟨i0, hi', hz0, hz1, hz2⟩ := info_parts infoI
    clear hb ho HFL c0 HO1 HX1 hl
    obtain ⟨_, _, he, hl1, hl2, hd⟩ := HI.out
    injection he with he1 _ he2
    subst he1; subst he2
    go_wp2_with fail
    go_loopg [7, 9] l.length (fun gk s7 s9 wr => (Itms wr (.slice ia l.length ic) l ∧ w2.heap.size ≤ wr.heap.size) ∧ Below w.heap.size w wr ∧ ∃ k : Nat, k + gk = l.length ∧ s9 = .int .i64 (k : Int) ∧ OwnI w.heap.size wr s7 ((l.take k).filter (inK lo hi)) ∧ ∀ q, s7.ownBlock = some q → q < w1.heap.size ∨ w2.heap.size ≤ q)
    case atStart => exact ⟨⟨HI.out, Nat.le_refl _⟩, H2.out, 0, by omega, rfl, HO2.out, fun q hq => by injection hq with hq; simp only at hq; omega⟩
    case round =>
      clear HO2
      obtain ⟨⟨hit, hws⟩, hbw0, k, hk, rfl, hown, hoff⟩ := hrel
      have HIW := hide hit
      have HOF := hide hoff
      obtain ⟨_, _, he, -, -, hd⟩ := hit
      injection he with he1 _ he2
      subst he1; subst he2
      have HW0 := hide hbw0
      have HO := hide hown
      obtain ⟨oa, on, oc, rfl⟩ := ownI_any hown
      clear hown hbw0 hoff
      by_cases hlt : k < l.length
      · obtain ⟨b, off, rfl, hbb, hcell⟩ := hd.resolve_left (by rintro rfl; simp at hlt)
        have E := hide (hcell k hlt)
        obtain ⟨e0, e1⟩ := E.out
        have HT := hide (take_filterI hlt (inK lo hi))
        have hfl : ((l.take k).filter (inK lo hi)).length ≤ k := Nat.le_trans (List.length_filter_le _ _) (by rw [List.length_take]; omega)
        clear hcell hd
        generalize l[k] = y at *
        obtain ⟨L0, hL0⟩ : ∃ L0, ((l.take k).filter (inK lo hi)) = L0 := ⟨_, rfl⟩
        obtain ⟨L1, hL1⟩ : ∃ L1, ((l.take (k + 1)).filter (inK lo hi)) = L1 := ⟨_, rfl⟩
        have HF0 : Hid (inK lo hi y = false → L1 = L0) := fun hp => by rw [← hL0, ← hL1, HT.out, hp]; simp
        have HF1 : Hid (inK lo hi y = true → L1 = L0 ++ [y]) := fun hp => by rw [← hL0, ← hL1, HT.out, hp]; simp
        have HL1 := hide hL1
        rw [hL0] at HO hfl
        clear hL0 hL1 HT
        have HK := hide (below_box wr (.cells #[.int .i64 y.k, .int .i64 y.r] 38))
        have HIT := hide (one_itms (x := y) (blk_alloc wr (.cells #[.int .i64 y.k, .int .i64 y.r] 38)))
        have hws0 := HW0.out.size
        have HIR := hide (inRange_any y.k lo hi wr)
        cases hq : inK lo hi y with
        | true =>
          have HF := hide (HF1.out hq)
          rw [show decide (lo ≤ y.k ∧ y.k ≤ hi) = true from hq] at HIR
          clear HF0 HF1 hq
          go_wp2_with fail
          refine HIR.out.mono ?_
          rintro e w3 ⟨rfl, rfl⟩
          go_wp2_with (at_builtin; refine wpList_append_lies _ rfl (.tmp 30) (.tmp 35) 28 rfl w.heap.size 38 i0 _ 2 16 Try.underlying28 hi' hz0 hz1 hz2 rfl (by decide) _ _ _ rfl (World.ownsRow.alloc HO.out _) ⟨_, 0, none⟩ 1 1 [.int .i64 y.k, .int .i64 y.r] rfl rfl ?c1 ?h1 (by decide) ?h63 ?hb ?hbase _ rfl ?next)
          case c1 => exact World.news_of_block (cs := #[.int .i64 y.k, .int .i64 y.r]) (blk_at rfl _)
          case h1 => intro u hu; simp at hu; rcases hu with rfl | rfl <;> rfl
          case h63 => unfold maxLen; omega
          case hb => omega
          case hbase => have := HK.out.size; omega
          case next =>
            intro g cp w3 hown hgrow hat hlt3
            have hk2 := HK.out.size
            have hk3 := hgrow.size
            have H3 : Hid (Below w.heap.size w w3) := (HW0.out.trans (HK.out.mono hws0)).grown hgrow (by omega) (fun q hq => (World.ownsRow.lt HO.out q hq).1)
            have HIT3 : Hid (Itms w3 (.slice (some ⟨b, off, none⟩) l.length ic) l) := (HIW.out.keep HK.out).kept hgrow (fun _ a n c e q => by
              injection e with e _ _
              have h1 := HBL.out b rfl
              have h2 := HOF.out _ q
              injection e with e
              rw [← e] at h2
              simp only at h2
              omega)
            have HOF3 : Hid (∀ q, (Value.slice (some ⟨g, 0, none⟩) (L0.length + 1) cp).ownBlock = some q → q < w1.heap.size ∨ w2.heap.size ≤ q) := fun q hq => by
              have hq : g = q := by injection hq
              subst hq
              rcases hat with h | h
              · exact HOF.out g h
              · right; omega
            have HN : Hid (OwnI w.heap.size w3 (.slice (some ⟨g, 0, none⟩) (L0.length + 1) cp) L1) := by
              rw [HF.out]
              unfold Hid OwnI
              rw [itmCells_app, List.length_append]
              exact hown
            clear hown hgrow hat
            go_wp2_with fail
            go_roundg (gk - 1)
            case measure => omega
            case rel => exact ⟨⟨HIT3.out, by omega⟩, H3.out, k + 1, by omega, by go_num, by rw [HL1.out]; exact HN.out, HOF3.out⟩
        | false =>
          have HF := hide (HF0.out hq)
          rw [show decide (lo ≤ y.k ∧ y.k ≤ hi) = false from hq] at HIR
          clear HF0 HF1 hq
          go_wp2_with fail
          refine HIR.out.mono ?_
          rintro e w3 ⟨rfl, rfl⟩
          go_wp2_with fail
          go_roundg (gk - 1)
          case measure => omega
          case rel => exact ⟨⟨HIW.out, hws⟩, HW0.out, k + 1, by omega, by go_num, by rw [HL1.out, HF.out]; exact HO.out, HOF.out⟩
      · have hkl : k = l.length := by omega
        subst hkl
        rw [List.take_length] at HO
        have HR : Hid (RngOf t lo hi (l.filter (inK lo hi))) := ⟨fun h => by rw [HL.out], fun h => absurd HY.out h⟩
        clear hd
        go_wp2_with fail
        go_ret
        exact ⟨_, rfl, _, HR.out, HO.out, HW0.out⟩
end Go.Proofs.Ytmlphdniiiijpaa
