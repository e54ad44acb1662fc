/-
  slices.Clone at items; sorted and IndexOf of the program; IndexOf of the specification.
-/
import Derived.Test.YtopdheombgajlaaVRows
import Derived.Test.YtopdheombgajlaaCloneI
import Derived.Test.YtopdheombgajlaaSortI
set_option linter.all false
namespace Go.Proofs.Ytopdheombgajlaa
open Go.RowKit
set_option maxHeartbeats 2000000 in
theorem isorted_any (v : Value) (l : List Itm) (w : World) (h : Itms w v l) (hn : l.length ≤ 1000) (hd : l.Nodup) :
    Calls Try.prog 14 #[v] w (ItRet w (ordL l)) := by
  have HC := hide (cloneI_any v l w h (by omega))
  have HD := hide hd
  obtain ⟨a, cap, rfl, -⟩ := h
  clear hd
  go_enter Try.func14, Try.ntmps14
  go_wp2_with fail
  refine HC.out.mono ?_
  rintro e w1 ⟨v', rfl, ho, hb⟩
  have H1 := hide hb
  have HS := hide (sortFunc_any _ v' l w1 ho hn)
  have HL := hide (fun k hk => (World.ownsRow.lt ho k hk).1)
  clear ho hb HC
  go_wp2_with fail
  refine HS.out.mono ?_
  rintro e w2 ⟨rfl, r, hp, hs, ho, hg⟩
  have HR : Hid (r = ordL l) := sort_eq hp hs HD.out
  have HO := hide ho
  have H2 : Hid (Below w.heap.size w w2) := H1.out.grown hg H1.out.size HL.out
  clear ho hg hp hs HS HL
  go_wp2_with fail
  go_ret
  exact ⟨v', rfl, HR.out ▸ HO.out, H2.out⟩
def IdxOf (l r : List Itm) : Prop := (vRows l → r = ordL l) ∧ (¬ vRows l → r = [])
def IdxRet (w : World) (l : List Itm) (e : Ending) (w' : World) : Prop := ∃ v' r, e = .returned v' ∧ IdxOf l r ∧ OwnI w.heap.size w' v' r ∧ Below w.heap.size w w'
theorem IdxOf.uniq {l r r' : List Itm} (h : IdxOf l r) (h' : IdxOf l r') : r = r' := by
  by_cases c : vRows l
  · rw [h.1 c, h'.1 c]
  · rw [h.2 c, h'.2 c]
theorem IdxOf.len {l r : List Itm} (h : IdxOf l r) : r.length ≤ 200 := by
  by_cases c : vRows l
  · rw [h.1 c, ordL_len_eq (asc_nodup c.2.2)]; have := c.1; omega
  · rw [h.2 c]; simp
set_option maxHeartbeats 2000000 in
theorem iIndexOf_any (v : Value) (l : List Itm) (w : World) (h : Itms w v l) :
    Calls Try.prog 5 #[v] w (IdxRet w l) := by
  have HV := hide (ivalidRows_any v l w h)
  have HI := hide h
  obtain ⟨a, cap, rfl, -⟩ := h
  go_enter Try.func5, Try.ntmps5
  go_wp2_with fail
  refine HV.out.mono ?_
  rintro e w1 ⟨b, rfl, hv, hb⟩
  have H1 := hide hb
  have HVV := hide hv
  have HI1 := hide (HI.out.keep hb)
  clear hb hv HV
  cases b with
  | false =>
    have HN : Hid (¬ vRows l) := fun h => by have := HVV.out.2 h; cases this
    go_wp2_with fail
    go_ret
    exact ⟨_, [], rfl, ⟨fun h => absurd h HN.out, fun _ => rfl⟩, World.ownsRow_nil _ _ _ _, H1.out⟩
  | true =>
    have HY : Hid (vRows l) := HVV.out.1 rfl
    have HS := hide (isorted_any _ l w1 HI1.out (by have := HY.out.1; omega) (asc_nodup HY.out.2.2))
    go_wp2_with fail
    refine HS.out.mono ?_
    rintro e w2 ⟨v', rfl, ho, hb⟩
    have H2 : Hid (Below w.heap.size w w2) := H1.out.trans (hb.mono H1.out.size)
    have HO := hide ho
    clear ho hb HS
    go_wp2_with fail
    go_ret
    exact ⟨v', _, rfl, ⟨fun _ => rfl, fun h => absurd HY.out h⟩, own_mono HO.out H1.out.size, H2.out⟩
set_option maxHeartbeats 2000000 in
theorem sIndexOf_any (v : Value) (l : List Itm) (w : World) (h : Itms w v l) :
    Calls Try.prog 7 #[v] w (IdxRet w l) := by
  have HV := hide (svalidRows_any v l w h)
  have HI := hide h
  obtain ⟨a, cap, rfl, -⟩ := h
  go_enter Try.func7, Try.ntmps7
  go_wp2_with fail
  refine HV.out.mono ?_
  rintro e w1 ⟨b, rfl, hv, hb⟩
  have H1 := hide hb
  have HVV := hide hv
  have HI1 := hide (HI.out.keep hb)
  clear hb hv HV
  cases b with
  | false =>
    have HN : Hid (¬ vRows l) := fun h => by have := HVV.out.2 h; cases this
    go_wp2_with fail
    go_ret
    exact ⟨_, [], rfl, ⟨fun h => absurd h HN.out, fun _ => rfl⟩, World.ownsRow_nil _ _ _ _, H1.out⟩
  | true =>
    have HY : Hid (vRows l) := HVV.out.1 rfl
    have HS := hide (ordered_any _ l w1 HI1.out (by have := HY.out.1; omega))
    go_wp2_with fail
    refine HS.out.mono ?_
    rintro e w2 ⟨v', rfl, ho, hb⟩
    have H2 : Hid (Below w.heap.size w w2) := H1.out.trans (hb.mono H1.out.size)
    have HO := hide ho
    clear ho hb HS
    go_wp2_with fail
    go_ret
    exact ⟨v', _, rfl, ⟨fun _ => rfl, fun h => absurd HY.out h⟩, own_mono HO.out H1.out.size, H2.out⟩
end Go.Proofs.Ytopdheombgajlaa
