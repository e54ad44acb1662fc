/-
  Rows of Item that begin a block; markItemS and heldItemS and what they leave.
-/
import Derived.Test.YtmlphdniiiijpaaIdx
import Derived.Deep.LoopGhost
set_option linter.all false
namespace Go.Proofs.Ytmlphdniiiijpaa
open Go.RowKit
def RowItem (g : Nat) (w : World) (v : Value) (l : List Itm) : Prop := ∃ a cap, v = .slice a l.length cap ∧ l.length ≤ cap ∧ cap ≤ 9223372036854775807 ∧
  (l = [] ∨ a = some ⟨g, 0, none⟩ ∧ ∃ cs, w.heap[g]? = some (.cells cs 38 (0, 0)) ∧ l.length * 2 ≤ cs.size ∧ ArrI cs l l.length)
theorem RowItem.kept {g h : Nat} {w w' : World} {v : Value} {l : List Itm} (k : RowItem g w v l) (hg : w.grownBy w' (some h)) (hne : l ≠ [] → g ≠ h) : RowItem g w' v l := by
  obtain ⟨a, cap, hv, h1, h2, h3⟩ := k
  refine ⟨a, cap, hv, h1, h2, ?_⟩
  rcases h3 with h3 | ⟨ha, cs, hb, hs, hc⟩
  · exact .inl h3
  · by_cases hl : l = []
    · exact .inl hl
    · exact .inr ⟨ha, cs, (hg.block g (lt_block hb) (fun e => hne hl (by injection e))).trans hb, hs, hc⟩
theorem RowItem.keep {g : Nat} {w w' : World} {v : Value} {l : List Itm} (k : RowItem g w v l) (hb : Below w.heap.size w w') : RowItem g w' v l := by
  obtain ⟨a, cap, hv, h1, h2, h3⟩ := k
  refine ⟨a, cap, hv, h1, h2, ?_⟩
  rcases h3 with h3 | ⟨ha, cs, hk, hs, hc⟩
  · exact .inl h3
  · exact .inr ⟨ha, cs, blk_own hb hk, hs, hc⟩
theorem RowItem.rows {g : Nat} {w : World} {v : Value} {l : List Itm} (k : RowItem g w v l) : Itms w v l := by
  obtain ⟨a, cap, rfl, h1, h2, h3⟩ := k
  rcases h3 with rfl | ⟨rfl, cs, hb, hs, hc⟩
  · exact ⟨a, cap, rfl, h1, h2, .inl rfl⟩
  · exact ⟨_, cap, rfl, h1, h2, .inr ⟨g, 0, rfl, lt_block hb, fun i hi => by
      obtain ⟨e0, e1⟩ := hc i hi hi
      exact ⟨by rw [cell_block hb, Nat.zero_add]; exact e0, by rw [cell_block hb, Nat.zero_add]; exact e1⟩⟩⟩
/-- a copy's row begins its block -/
theorem RowItem.new {g cap : Nat} {w : World} {l : List Itm} {cs : Array Value} (h : Itms w (.slice (some ⟨g, 0, none⟩) l.length cap) l) (hb : w.heap[g]? = some (.cells cs 38 (0, 0))) : RowItem g w (.slice (some ⟨g, 0, none⟩) l.length cap) l := by
  obtain ⟨a, cap', hv, h1, h2, h3⟩ := h
  injection hv with ha _ hc
  subst ha; subst hc
  refine ⟨_, cap, rfl, h1, h2, ?_⟩
  rcases h3 with h3 | ⟨b, off, he, hlt, hc⟩
  · exact .inl h3
  · injection he with he
    injection he with he1 he2 _
    subst he1; subst he2
    have hcell : ∀ i (hi : i < l.length), cs[i * 2]? = some (.int .i64 l[i].k) ∧ cs[i * 2 + 1]? = some (.int .i64 l[i].r) := fun i hi => by
      obtain ⟨e0, e1⟩ := hc i hi
      rw [cell_block hb, Nat.zero_add] at e0 e1
      exact ⟨e0, e1⟩
    refine .inr ⟨rfl, cs, hb, ?_, fun i _ hi => hcell i hi⟩
    by_cases h0 : l.length = 0
    · omega
    · have := (hcell (l.length - 1) (by omega)).2
      have := (Array.getElem?_eq_some_iff.1 this).1
      omega
theorem OwnI.row {B : Nat} {w : World} {v : Value} {l : List Itm} (h : OwnI B w v l) : ∃ g, B ≤ g ∧ (l ≠ [] → g < w.heap.size) ∧ RowItem g w v l := by
  rcases h.2 with ⟨rfl, hn⟩ | ⟨g, cap, cur, rfl, -⟩
  · have : l = [] := List.length_eq_zero_iff.1 hn
    subst this
    exact ⟨B, Nat.le_refl _, fun hlt => absurd rfl hlt, none, 0, rfl, by simp, by omega, .inl rfl⟩
  · obtain ⟨cur, hcur, hcs, hcm, hnc, hB, hxl, hx⟩ := own_at h
    refine ⟨g, hB, fun _ => lt_block hcur, _, cap, rfl, hnc, by unfold maxLen at hcm; omega, .inr ⟨rfl, cur, hcur, by rw [hcs]; omega, fun i _ hi => ?_⟩⟩
    obtain ⟨e0, e1⟩ := itmCells_at l i hi
    rw [itmCells_len] at hx
    exact ⟨by rw [hx _ (by omega)]; exact e0, by rw [hx _ (by omega)]; exact e1⟩
def marksItem (m n : Nat) : List Itm := (List.range n).map fun i => ⟨((m + i * 2 + 0 : Nat) : Int), ((m + i * 2 + 1 : Nat) : Int)⟩
theorem marksItem_len (m n : Nat) : (marksItem m n).length = n := by simp [marksItem]
theorem marksItem_at {m n k : Nat} (h : k < (marksItem m n).length) : (marksItem m n)[k] = ⟨((m + k * 2 + 0 : Nat) : Int), ((m + k * 2 + 1 : Nat) : Int)⟩ := by simp [marksItem]
def MArrItem (cs : Array Value) (m k : Nat) : Prop := ∀ j, j < k → cs[j * 2]? = some (.int .i64 ((m + j * 2 + 0 : Nat) : Int)) ∧ cs[j * 2 + 1]? = some (.int .i64 ((m + j * 2 + 1 : Nat) : Int))
theorem MArrItem.step {cs : Array Value} {m k N p : Nat} (h : MArrItem cs m k) (hk : k < N) (hs : N * 2 ≤ cs.size) (hp : p = m + k * 2) :
    MArrItem (((cs.setIfInBounds (k * 2) (.int .i64 ((p + 0 : Nat) : Int))).setIfInBounds (k * 2 + 1) (.int .i64 ((p + 1 : Nat) : Int)))) m (k + 1) := by
  intro j hj
  subst hp
  by_cases hjk : j = k
  · subst hjk
    refine ⟨?_, ?_⟩
    · rw [Array.getElem?_setIfInBounds_ne (by omega)]; rw [Array.getElem?_setIfInBounds_self_of_lt (by first | omega | (simp; omega))]
    · rw [Array.getElem?_setIfInBounds_self_of_lt (by first | omega | (simp; omega))]
  · obtain ⟨h0, h1⟩ := h j (by omega)
    refine ⟨?_, ?_⟩
    · rw [Array.getElem?_setIfInBounds_ne (by omega)]; rw [Array.getElem?_setIfInBounds_ne (by omega)]; exact h0
    · rw [Array.getElem?_setIfInBounds_ne (by omega)]; rw [Array.getElem?_setIfInBounds_ne (by omega)]; exact h1
def MarkItemRet (w : World) (m g : Nat) (v : Value) (n : Nat) (e : Ending) (w' : World) : Prop :=
  e = .returned (.int .i64 ((m + n * 2 : Nat) : Int)) ∧ w.grownBy w' (some g) ∧ RowItem g w' v (marksItem m n)
set_option maxHeartbeats 8000000 in
theorem markItemS_row (g m : Nat) (v : Value) (l : List Itm) (w : World) (hr : RowItem g w v l) (h0 : 1 ≤ m) (h1 : m + l.length * 2 ≤ 9000000) :
    Calls Try.prog 79 #[v, .int .i64 (m : Int)] w (MarkItemRet w m g v l.length) := by
  obtain ⟨a, cap, rfl, hn, hc, hd⟩ := hr
  obtain ⟨n, hln⟩ : ∃ n, l.length = n := ⟨_, rfl⟩
  have hd' : n = 0 ∨ a = some ⟨g, 0, none⟩ ∧ ∃ cs, w.heap[g]? = some (.cells cs 38 (0, 0)) ∧ n * 2 ≤ cs.size := by
    rcases hd with rfl | ⟨ha, cs, hb, hs, -⟩
    · exact .inl hln.symm
    · exact .inr ⟨ha, cs, hb, by omega⟩
  rw [hln] at hn h1 ⊢
  clear hd hln
  by_cases hn0 : n = 0
  · subst hn0
    go_enter Try.func79, Try.ntmps79
    go_wp2_with fail
    go_loopg [1, 5] 0 (fun gk s1 s5 wr => wr = w ∧ s1 = .int .i64 (m : Int) ∧ s5 = .int .i64 0)
    case atStart => exact ⟨rfl, rfl, rfl⟩
    case round =>
      obtain ⟨rfl, rfl, rfl⟩ := hrel
      go_wp2_with fail
      go_ret
      exact ⟨rfl, grown_below (Below.refl _ _) _, a, cap, by rw [marksItem_len], by rw [marksItem_len]; omega, hc, .inl rfl⟩
  · obtain ⟨rfl, cs, hb, hs⟩ := hd'.resolve_left hn0
    have HG := hide hb
    clear hb hd'
    go_enter Try.func79, Try.ntmps79
    go_wp2_with fail
    go_loopg [1, 5] n (fun gk s1 s5 wr => w.grownBy wr (some g) ∧ ∃ (k p : Nat) (cr : Array Value), k + gk = n ∧ Hid (p = m + k * 2) ∧ s1 = .int .i64 (p : Int) ∧ s5 = .int .i64 (k : Int) ∧ cr.size = cs.size ∧ wr.heap[g]? = some (.cells cr 38 (0, 0)) ∧ MArrItem cr m k)
    case atStart => exact ⟨grown_below (Below.refl _ _) _, 0, m, cs, by omega, hide (by omega), rfl, rfl, rfl, HG.out, fun j hj => by omega⟩
    case round =>
      obtain ⟨hgw, k, p, cr, hk, hp, rfl, rfl, hsz, hblk, harr⟩ := hrel
      have HW := hide hgw
      have HB := hide hblk
      have HA := hide harr
      have hgr : g < wr.heap.size := lt_block hblk
      clear hgw hblk harr
      by_cases hlt : k < n
      · have hp1 : 1 ≤ p := by have := hp.out; omega
        have hp2 : p ≤ 8999998 := by have := hp.out; omega
        have HS := hide (HA.out.step hlt (show n * 2 ≤ cr.size by omega) hp.out)
        obtain ⟨u0, x0⟩ : ∃ u, wr.cell? ⟨g, k * 2, none⟩ = some u := ⟨_, by rw [cell_block HB.out]; exact Array.getElem?_eq_getElem (by omega)⟩
        have f0 := froz_block HB.out (k * 2)
        obtain ⟨u1, x1⟩ : ∃ u, wr.cell? ⟨g, k * 2 + 1, none⟩ = some u := ⟨_, by rw [cell_block HB.out]; exact Array.getElem?_eq_getElem (by omega)⟩
        have f1 := froz_block HB.out (k * 2 + 1)
        go_wp2_with fail
        go_roundg (gk - 1)
        case measure => omega
        case rel => exact ⟨grown_trans (grown_trans (HW.out) (grown_setCell _ _ _ _)) (grown_setCell _ _ _ _), k + 1, p + 2, _, by omega, hide (by have := hp.out; omega), by go_num, by go_num, by simp [hsz], set_block (set_block (HB.out) _ _) _ _, HS.out⟩
      · have HE : Hid (k = n) := hide (by omega)
        go_wp2_with fail
        go_ret
        have hkl := HE.out
        subst hkl
        exact ⟨by rw [hp.out]; rfl, HW.out, _, cap, by rw [marksItem_len], by rw [marksItem_len]; exact hn, hc, .inr ⟨rfl, cr, HB.out, by rw [marksItem_len]; omega, fun j _ hj => by
          have hj' := hj
          rw [marksItem_len] at hj'
          simp only [marksItem_at hj]
          exact HA.out j hj'⟩⟩
set_option maxHeartbeats 8000000 in
theorem heldItemS_row (g n m : Nat) (v : Value) (w : World) (hr : RowItem g w v (marksItem m n)) (h0 : 1 ≤ m) (h1 : m + n * 2 ≤ 9000000) :
    Calls Try.prog 80 #[v, .int .i64 (m : Int)] w (fun e w' => e = .returned (.int .i64 ((m + n * 2 : Nat) : Int)) ∧ Below w.heap.size w w') := by
  obtain ⟨a, cap, rfl, hn, hc, hd⟩ := hr
  rw [marksItem_len] at hn
  rw [marksItem_len]
  go_enter Try.func80, Try.ntmps80
  go_wp2_with fail
  go_loopg [1, 5] n (fun gk s1 s5 wr => Below w.heap.size w wr ∧ ∃ (k p : Nat), k + gk = n ∧ Hid (p = m + k * 2) ∧ s1 = .int .i64 (p : Int) ∧ s5 = .int .i64 (k : Int))
  case atStart => exact ⟨Below.refl _ _, 0, m, by omega, hide (by omega), rfl, rfl⟩
  case round =>
    obtain ⟨hbw, k, p, hk, hp, rfl, rfl⟩ := hrel
    have HW := hide hbw
    by_cases hlt : k < n
    · obtain ⟨rfl, cs, hb, -, harr⟩ := hd.resolve_left (by intro h; have := congrArg List.length h; rw [marksItem_len] at this; simp at this; omega)
      have hp1 : 1 ≤ p := by have := hp.out; omega
      have hp2 : p ≤ 8999998 := by have := hp.out; omega
      obtain ⟨e0, e1⟩ : wr.cell? ⟨g, k * 2, none⟩ = some (.int .i64 (p : Int)) ∧ wr.cell? ⟨g, k * 2 + 1, none⟩ = some (.int .i64 ((p : Int) + 1)) := by
        have hx := harr k (by rw [marksItem_len]; exact hlt) (by rw [marksItem_len]; exact hlt)
        rw [marksItem_at, ← hp.out] at hx
        have hbr := (hbw.block g (lt_block hb)).trans hb
        obtain ⟨q0, q1⟩ := hx
        exact ⟨(cell_block hbr _).trans q0, (cell_block hbr _).trans q1⟩
      clear hd harr hb hbw
      go_wp2_with fail
      repeat (go_quiet (fail); go_wp2_with fail)
      go_roundg (gk - 1)
      case measure => omega
      case rel => exact ⟨by first | exact HW.out | exact below_drewN HW.out _ | exact below_drewN (below_drewN HW.out _) _ | exact below_drewN (below_drewN (below_drewN HW.out _) _) _ | exact below_drewN (below_drewN (below_drewN (below_drewN HW.out _) _) _) _, k + 1, p + 2, by omega, hide (by have := hp.out; omega), by go_num, by go_num⟩
    · have HE : Hid (k = n) := hide (by omega)
      clear hd hbw
      go_wp2_with fail
      go_ret
      have hkl := HE.out
      subst hkl
      exact ⟨by rw [hp.out]; rfl, HW.out⟩
end Go.Proofs.Ytmlphdniiiijpaa
