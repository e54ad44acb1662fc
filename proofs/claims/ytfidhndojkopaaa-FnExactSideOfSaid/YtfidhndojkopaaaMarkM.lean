/-
  Rows of Move that begin a block; markMoveS and heldMoveS and what they leave.
-/
import Derived.Test.YtfidhndojkopaaaOwnM
import Derived.Deep.LoopGhost
set_option linter.all false
namespace Go.Proofs.Ytfidhndojkopaaa
open Go.RowKit
def RowMove (g : Nat) (w : World) (v : Value) (l : List RMove) : Prop := ∃ a cap, v = .slice a l.length cap ∧ l.length ≤ cap ∧ cap ≤ 9223372036854775807 ∧
  (l = [] ∨ a = some ⟨g, 0, none⟩ ∧ ∃ cs, w.heap[g]? = some (.cells cs 48 (0, 0)) ∧ l.length * 4 ≤ cs.size ∧ ArrMove cs l l.length)
theorem RowMove.kept {g h : Nat} {w w' : World} {v : Value} {l : List RMove} (k : RowMove g w v l) (hg : w.grownBy w' (some h)) (hne : l ≠ [] → g ≠ h) : RowMove g w' v l := by
  obtain ⟨a, cap, hv, h1, h2, h3⟩ := k
  refine ⟨a, cap, hv, h1, h2, ?_⟩
  rcases h3 with h3 | ⟨ha, cs, hb, hs, hc⟩
  · exact .inl h3
  · by_cases hl : l = []
    · exact .inl hl
    · exact .inr ⟨ha, cs, (hg.block g (lt_block hb) (fun e => hne hl (by injection e))).trans hb, hs, hc⟩
theorem RowMove.keep {g : Nat} {w w' : World} {v : Value} {l : List RMove} (k : RowMove g w v l) (hb : Below w.heap.size w w') : RowMove g w' v l := by
  obtain ⟨a, cap, hv, h1, h2, h3⟩ := k
  refine ⟨a, cap, hv, h1, h2, ?_⟩
  rcases h3 with h3 | ⟨ha, cs, hk, hs, hc⟩
  · exact .inl h3
  · exact .inr ⟨ha, cs, blk_own hb hk, hs, hc⟩
theorem RowMove.rows {g : Nat} {w : World} {v : Value} {l : List RMove} (k : RowMove g w v l) : Moves w v l := by
  obtain ⟨a, cap, rfl, h1, h2, h3⟩ := k
  rcases h3 with rfl | ⟨rfl, cs, hb, hs, hc⟩
  · exact ⟨a, cap, rfl, h1, h2, .inl rfl⟩
  · exact ⟨_, cap, rfl, h1, h2, .inr ⟨g, 0, rfl, lt_block hb, fun i hi => by
      obtain ⟨e0, e1, e2, e3⟩ := hc i hi hi
      exact ⟨by rw [cell_block hb, Nat.zero_add]; exact e0, by rw [cell_block hb, Nat.zero_add]; exact e1, by rw [cell_block hb, Nat.zero_add]; exact e2, by rw [cell_block hb, Nat.zero_add]; exact e3⟩⟩⟩
/-- a copy's row begins its block -/
theorem RowMove.new {g cap : Nat} {w : World} {l : List RMove} {cs : Array Value} (h : Moves w (.slice (some ⟨g, 0, none⟩) l.length cap) l) (hb : w.heap[g]? = some (.cells cs 48 (0, 0))) : RowMove g w (.slice (some ⟨g, 0, none⟩) l.length cap) l := by
  obtain ⟨a, cap', hv, h1, h2, h3⟩ := h
  injection hv with ha _ hc
  subst ha; subst hc
  refine ⟨_, cap, rfl, h1, h2, ?_⟩
  rcases h3 with h3 | ⟨b, off, he, hlt, hc⟩
  · exact .inl h3
  · injection he with he
    injection he with he1 he2 _
    subst he1; subst he2
    have hcell : ∀ i (hi : i < l.length), cs[i * 4]? = some (.bool l[i].scan) ∧ cs[i * 4 + 1]? = some (.bool l[i].gone) ∧ cs[i * 4 + 2]? = some (.int .i64 l[i].row) ∧ cs[i * 4 + 3]? = some (.int .i64 l[i].key) := fun i hi => by
      obtain ⟨e0, e1, e2, e3⟩ := hc i hi
      rw [cell_block hb, Nat.zero_add] at e0 e1 e2 e3
      exact ⟨e0, e1, e2, e3⟩
    refine .inr ⟨rfl, cs, hb, ?_, fun i _ hi => hcell i hi⟩
    by_cases h0 : l.length = 0
    · omega
    · have := (hcell (l.length - 1) (by omega)).2.2.2
      have := (Array.getElem?_eq_some_iff.1 this).1
      omega
theorem OwnM.row {B : Nat} {w : World} {v : Value} {l : List RMove} (h : OwnM B w v l) : ∃ g, B ≤ g ∧ (l ≠ [] → g < w.heap.size) ∧ RowMove g w v l := by
  rcases h.2 with ⟨rfl, hn⟩ | ⟨g, cap, cur, rfl, -⟩
  · have : l = [] := List.length_eq_zero_iff.1 hn
    subst this
    exact ⟨B, Nat.le_refl _, fun hlt => absurd rfl hlt, none, 0, rfl, by simp, by omega, .inl rfl⟩
  · obtain ⟨cur, hcur, hcs, hcm, hnc, hB, hxl, hx⟩ := own_at h
    refine ⟨g, hB, fun _ => lt_block hcur, _, cap, rfl, hnc, by unfold maxLen at hcm; omega, .inr ⟨rfl, cur, hcur, by rw [hcs]; omega, fun i _ hi => ?_⟩⟩
    obtain ⟨e0, e1, e2, e3⟩ := mvCells_at l i hi
    rw [mvCells_len] at hx
    exact ⟨by rw [hx _ (by omega)]; exact e0, by rw [hx _ (by omega)]; exact e1, by rw [hx _ (by omega)]; exact e2, by rw [hx _ (by omega)]; exact e3⟩
def markB (k : Nat) : Bool := ((k : Int) % 3 == 0)
def marksMove (m n : Nat) : List RMove := (List.range n).map fun i => ⟨(markB (m + i * 4 + 0)), (markB (m + i * 4 + 1)), ((m + i * 4 + 2 : Nat) : Int), ((m + i * 4 + 3 : Nat) : Int)⟩
theorem marksMove_len (m n : Nat) : (marksMove m n).length = n := by simp [marksMove]
theorem marksMove_at {m n k : Nat} (h : k < (marksMove m n).length) : (marksMove m n)[k] = ⟨(markB (m + k * 4 + 0)), (markB (m + k * 4 + 1)), ((m + k * 4 + 2 : Nat) : Int), ((m + k * 4 + 3 : Nat) : Int)⟩ := by simp [marksMove]
def MArrMove (cs : Array Value) (m k : Nat) : Prop := ∀ j, j < k → cs[j * 4]? = some (.bool (markB (m + j * 4 + 0))) ∧ cs[j * 4 + 1]? = some (.bool (markB (m + j * 4 + 1))) ∧ cs[j * 4 + 2]? = some (.int .i64 ((m + j * 4 + 2 : Nat) : Int)) ∧ cs[j * 4 + 3]? = some (.int .i64 ((m + j * 4 + 3 : Nat) : Int))
theorem MArrMove.step {cs : Array Value} {m k N p : Nat} (h : MArrMove cs m k) (hk : k < N) (hs : N * 4 ≤ cs.size) (hp : p = m + k * 4) :
    MArrMove (((((cs.setIfInBounds (k * 4) (.bool (markB (p + 0)))).setIfInBounds (k * 4 + 1) (.bool (markB (p + 1)))).setIfInBounds (k * 4 + 2) (.int .i64 ((p + 2 : Nat) : Int))).setIfInBounds (k * 4 + 3) (.int .i64 ((p + 3 : Nat) : Int)))) m (k + 1) := by
  intro j hj
  subst hp
  by_cases hjk : j = k
  · subst hjk
    refine ⟨?_, ?_, ?_, ?_⟩
    · rw [Array.getElem?_setIfInBounds_ne (by omega)]; rw [Array.getElem?_setIfInBounds_ne (by omega)]; rw [Array.getElem?_setIfInBounds_ne (by omega)]; rw [Array.getElem?_setIfInBounds_self_of_lt (by first | omega | (simp; omega))]
    · rw [Array.getElem?_setIfInBounds_ne (by omega)]; rw [Array.getElem?_setIfInBounds_ne (by omega)]; rw [Array.getElem?_setIfInBounds_self_of_lt (by first | omega | (simp; omega))]
    · rw [Array.getElem?_setIfInBounds_ne (by omega)]; rw [Array.getElem?_setIfInBounds_self_of_lt (by first | omega | (simp; omega))]
    · rw [Array.getElem?_setIfInBounds_self_of_lt (by first | omega | (simp; omega))]
  · obtain ⟨h0, h1, h2, h3⟩ := h j (by omega)
    refine ⟨?_, ?_, ?_, ?_⟩
    · rw [Array.getElem?_setIfInBounds_ne (by omega)]; rw [Array.getElem?_setIfInBounds_ne (by omega)]; rw [Array.getElem?_setIfInBounds_ne (by omega)]; rw [Array.getElem?_setIfInBounds_ne (by omega)]; exact h0
    · rw [Array.getElem?_setIfInBounds_ne (by omega)]; rw [Array.getElem?_setIfInBounds_ne (by omega)]; rw [Array.getElem?_setIfInBounds_ne (by omega)]; rw [Array.getElem?_setIfInBounds_ne (by omega)]; exact h1
    · rw [Array.getElem?_setIfInBounds_ne (by omega)]; rw [Array.getElem?_setIfInBounds_ne (by omega)]; rw [Array.getElem?_setIfInBounds_ne (by omega)]; rw [Array.getElem?_setIfInBounds_ne (by omega)]; exact h2
    · rw [Array.getElem?_setIfInBounds_ne (by omega)]; rw [Array.getElem?_setIfInBounds_ne (by omega)]; rw [Array.getElem?_setIfInBounds_ne (by omega)]; rw [Array.getElem?_setIfInBounds_ne (by omega)]; exact h3
def MarkMoveRet (w : World) (m g : Nat) (v : Value) (n : Nat) (e : Ending) (w' : World) : Prop :=
  e = .returned (.int .i64 ((m + n * 4 : Nat) : Int)) ∧ w.grownBy w' (some g) ∧ RowMove g w' v (marksMove m n)
set_option maxHeartbeats 8000000 in
theorem markMoveS_row (g m : Nat) (v : Value) (l : List RMove) (w : World) (hr : RowMove g w v l) (h0 : 1 ≤ m) (h1 : m + l.length * 4 ≤ 9000000) :
    Calls Try.prog 22 #[v, .int .i64 (m : Int)] w (MarkMoveRet w m g v l.length) := by
  obtain ⟨a, cap, rfl, hn, hc, hd⟩ := hr
  obtain ⟨n, hln⟩ : ∃ n, l.length = n := ⟨_, rfl⟩
  have hd' : n = 0 ∨ a = some ⟨g, 0, none⟩ ∧ ∃ cs, w.heap[g]? = some (.cells cs 48 (0, 0)) ∧ n * 4 ≤ cs.size := by
    rcases hd with rfl | ⟨ha, cs, hb, hs, -⟩
    · exact .inl hln.symm
    · exact .inr ⟨ha, cs, hb, by omega⟩
  rw [hln] at hn h1 ⊢
  clear hd hln
  by_cases hn0 : n = 0
  · subst hn0
    go_enter Try.func22, Try.ntmps22
    go_wp2_with fail
    go_loopg [1, 5] 0 (fun gk s1 s5 wr => wr = w ∧ s1 = .int .i64 (m : Int) ∧ s5 = .int .i64 0)
    case atStart => exact ⟨rfl, rfl, rfl⟩
    case round =>
      obtain ⟨rfl, rfl, rfl⟩ := hrel
      go_wp2_with fail
      go_ret
      exact ⟨rfl, grown_below (Below.refl _ _) _, a, cap, by rw [marksMove_len], by rw [marksMove_len]; omega, hc, .inl rfl⟩
  · obtain ⟨rfl, cs, hb, hs⟩ := hd'.resolve_left hn0
    have HG := hide hb
    clear hb hd'
    go_enter Try.func22, Try.ntmps22
    go_wp2_with fail
    go_loopg [1, 5] n (fun gk s1 s5 wr => w.grownBy wr (some g) ∧ ∃ (k p : Nat) (cr : Array Value), k + gk = n ∧ Hid (p = m + k * 4) ∧ s1 = .int .i64 (p : Int) ∧ s5 = .int .i64 (k : Int) ∧ cr.size = cs.size ∧ wr.heap[g]? = some (.cells cr 48 (0, 0)) ∧ MArrMove cr m k)
    case atStart => exact ⟨grown_below (Below.refl _ _) _, 0, m, cs, by omega, hide (by omega), rfl, rfl, rfl, HG.out, fun j hj => by omega⟩
    case round =>
      obtain ⟨hgw, k, p, cr, hk, hp, rfl, rfl, hsz, hblk, harr⟩ := hrel
      have HW := hide hgw
      have HB := hide hblk
      have HA := hide harr
      have hgr : g < wr.heap.size := lt_block hblk
      clear hgw hblk harr
      by_cases hlt : k < n
      · have hp1 : 1 ≤ p := by have := hp.out; omega
        have hp2 : p ≤ 8999996 := by have := hp.out; omega
        have HS := hide (HA.out.step hlt (show n * 4 ≤ cr.size by omega) hp.out)
        obtain ⟨u0, x0⟩ : ∃ u, wr.cell? ⟨g, k * 4, none⟩ = some u := ⟨_, by rw [cell_block HB.out]; exact Array.getElem?_eq_getElem (by omega)⟩
        have f0 := froz_block HB.out (k * 4)
        obtain ⟨u1, x1⟩ : ∃ u, wr.cell? ⟨g, k * 4 + 1, none⟩ = some u := ⟨_, by rw [cell_block HB.out]; exact Array.getElem?_eq_getElem (by omega)⟩
        have f1 := froz_block HB.out (k * 4 + 1)
        obtain ⟨u2, x2⟩ : ∃ u, wr.cell? ⟨g, k * 4 + 2, none⟩ = some u := ⟨_, by rw [cell_block HB.out]; exact Array.getElem?_eq_getElem (by omega)⟩
        have f2 := froz_block HB.out (k * 4 + 2)
        obtain ⟨u3, x3⟩ : ∃ u, wr.cell? ⟨g, k * 4 + 3, none⟩ = some u := ⟨_, by rw [cell_block HB.out]; exact Array.getElem?_eq_getElem (by omega)⟩
        have f3 := froz_block HB.out (k * 4 + 3)
        go_wp2_with fail
        go_roundg (gk - 1)
        case measure => omega
        case rel => exact ⟨grown_trans (grown_trans (grown_trans (grown_trans (HW.out) (grown_setCell _ _ _ _)) (grown_setCell _ _ _ _)) (grown_setCell _ _ _ _)) (grown_setCell _ _ _ _), k + 1, p + 4, _, by omega, hide (by have := hp.out; omega), by go_num, by go_num, by simp [hsz], set_block (set_block (set_block (set_block (HB.out) _ _) _ _) _ _) _ _, HS.out⟩
      · have HE : Hid (k = n) := hide (by omega)
        go_wp2_with fail
        go_ret
        have hkl := HE.out
        subst hkl
        exact ⟨by rw [hp.out]; rfl, HW.out, _, cap, by rw [marksMove_len], by rw [marksMove_len]; exact hn, hc, .inr ⟨rfl, cr, HB.out, by rw [marksMove_len]; omega, fun j _ hj => by
          have hj' := hj
          rw [marksMove_len] at hj'
          simp only [marksMove_at hj]
          exact HA.out j hj'⟩⟩
set_option maxHeartbeats 8000000 in
theorem heldMoveS_row (g n m : Nat) (v : Value) (w : World) (hr : RowMove g w v (marksMove m n)) (h0 : 1 ≤ m) (h1 : m + n * 4 ≤ 9000000) :
    Calls Try.prog 25 #[v, .int .i64 (m : Int)] w (fun e w' => e = .returned (.int .i64 ((m + n * 4 : Nat) : Int)) ∧ Below w.heap.size w w') := by
  obtain ⟨a, cap, rfl, hn, hc, hd⟩ := hr
  rw [marksMove_len] at hn
  rw [marksMove_len]
  go_enter Try.func25, Try.ntmps25
  go_wp2_with fail
  go_loopg [1, 5] n (fun gk s1 s5 wr => Below w.heap.size w wr ∧ ∃ (k p : Nat), k + gk = n ∧ Hid (p = m + k * 4) ∧ s1 = .int .i64 (p : Int) ∧ s5 = .int .i64 (k : Int))
  case atStart => exact ⟨Below.refl _ _, 0, m, by omega, hide (by omega), rfl, rfl⟩
  case round =>
    obtain ⟨hbw, k, p, hk, hp, rfl, rfl⟩ := hrel
    have HW := hide hbw
    by_cases hlt : k < n
    · obtain ⟨rfl, cs, hb, -, harr⟩ := hd.resolve_left (by intro h; have := congrArg List.length h; rw [marksMove_len] at this; simp at this; omega)
      have hp1 : 1 ≤ p := by have := hp.out; omega
      have hp2 : p ≤ 8999996 := by have := hp.out; omega
      obtain ⟨e0, e1, e2, e3⟩ : wr.cell? ⟨g, k * 4, none⟩ = some (.bool ((p : Int) % 3 == 0)) ∧ wr.cell? ⟨g, k * 4 + 1, none⟩ = some (.bool (((p : Int) + 1) % 3 == 0)) ∧ wr.cell? ⟨g, k * 4 + 2, none⟩ = some (.int .i64 ((p : Int) + 2)) ∧ wr.cell? ⟨g, k * 4 + 3, none⟩ = some (.int .i64 ((p : Int) + 3)) := by
        have hx := harr k (by rw [marksMove_len]; exact hlt) (by rw [marksMove_len]; exact hlt)
        rw [marksMove_at, ← hp.out] at hx
        have hbr := (hbw.block g (lt_block hb)).trans hb
        obtain ⟨q0, q1, q2, q3⟩ := hx
        exact ⟨(cell_block hbr _).trans q0, (cell_block hbr _).trans q1, (cell_block hbr _).trans q2, (cell_block hbr _).trans q3⟩
      clear hd harr hb hbw
      go_wp2_with fail
      repeat (go_quiet (fail); go_wp2_with fail)
      go_roundg (gk - 1)
      case measure => omega
      case rel => exact ⟨by first | exact HW.out | exact below_drewN HW.out _ | exact below_drewN (below_drewN HW.out _) _ | exact below_drewN (below_drewN (below_drewN HW.out _) _) _ | exact below_drewN (below_drewN (below_drewN (below_drewN HW.out _) _) _) _, k + 1, p + 4, by omega, hide (by have := hp.out; omega), by go_num, by go_num⟩
    · have HE : Hid (k = n) := hide (by omega)
      clear hd hbw
      go_wp2_with fail
      go_ret
      have hkl := HE.out
      subst hkl
      exact ⟨by rw [hp.out]; rfl, HW.out⟩
end Go.Proofs.Ytfidhndojkopaaa
