/-
  markEntryS: marks in all cells of a row.
-/
import Derived.Test.YteikeljklfblmaaDrop2
import Derived.Deep.LoopGhost
set_option linter.all false
namespace Go.Proofs.Yteikeljklfblmaa
open Go.RowKit
theorem markText_at (z : Int) (n : Nat) (hz : z = (n : Int)) (h0 : 1 ≤ n) (h1 : n ≤ 9000000) (w : World) :
    Calls Try.prog 54 #[.int .i64 z] w fun e w' => e = .returned (.string (mkT n)) ∧ Below w.heap.size w w' := by
  subst hz; exact markText_any n h0 h1 w
def markL (m n : Nat) : List Ent := (List.range n).map fun i => ⟨mkT (m + 3 * i), mkT (m + 3 * i + 1), ((m + 3 * i + 2 : Nat) : Int)⟩
theorem markL_len (m n : Nat) : (markL m n).length = n := by simp [markL]
theorem markL_at {m n k : Nat} (h : k < (markL m n).length) : (markL m n)[k] = ⟨mkT (m + 3 * k), mkT (m + 3 * k + 1), ((m + 3 * k + 2 : Nat) : Int)⟩ := by simp [markL]
/-- a row of entries that begins a block -/
def RowAt (g : Nat) (w : World) (v : Value) (l : List Ent) : Prop := ∃ a cap, v = .slice a l.length cap ∧ l.length ≤ cap ∧ cap ≤ 9223372036854775807 ∧
  (l = [] ∨ a = some ⟨g, 0, none⟩ ∧ ∃ cs, w.heap[g]? = some (.cells cs 27 (0, 0)) ∧ l.length * 3 ≤ cs.size ∧ ArrE cs l l.length)
theorem RowAt.kept {g h : Nat} {w w' : World} {v : Value} {l : List Ent} (k : RowAt g w v l) (hg : w.grownBy w' (some h)) (hne : l ≠ [] → g ≠ h) : RowAt g w' v l := by
  obtain ⟨a, cap, hv, h1, h2, h3⟩ := k
  refine ⟨a, cap, hv, h1, h2, ?_⟩
  rcases h3 with h3 | ⟨ha, cs, hb, hs, hc⟩
  · exact .inl h3
  · by_cases hl : l = []
    · exact .inl hl
    · exact .inr ⟨ha, cs, (hg.block g (lt_block hb) (fun e => hne hl (by injection e))).trans hb, hs, hc⟩
theorem RowAt.keep {g : Nat} {w w' : World} {v : Value} {l : List Ent} (k : RowAt g w v l) (hb : Below w.heap.size w w') : RowAt g w' v l := by
  obtain ⟨a, cap, hv, h1, h2, h3⟩ := k
  refine ⟨a, cap, hv, h1, h2, ?_⟩
  rcases h3 with h3 | ⟨ha, cs, hk, hs, hc⟩
  · exact .inl h3
  · exact .inr ⟨ha, cs, blk_own hb hk, hs, hc⟩
theorem RowAt.ents {g : Nat} {w : World} {v : Value} {l : List Ent} (k : RowAt g w v l) (hz : ∀ e ∈ l, e.n.size ≤ 9223372036854775807 ∧ e.t.size ≤ 9223372036854775807) : Ents w v l := by
  obtain ⟨a, cap, rfl, h1, h2, h3⟩ := k
  rcases h3 with rfl | ⟨rfl, cs, hb, hs, hc⟩
  · exact ⟨a, cap, rfl, h1, h2, .inl rfl⟩
  · exact ents_block hb hc h1 h2 hz
theorem OwnE.row {B : Nat} {w : World} {v : Value} {l : List Ent} (h : OwnE B w v l) : ∃ g, B ≤ g ∧ (l ≠ [] → g < w.heap.size) ∧ RowAt g w v l := by
  unfold OwnE at h
  have h' := h
  rcases h.2 with ⟨rfl, hn⟩ | ⟨g, cap, cur, rfl, hb, hg, hnc, hcm, hcs, htake⟩
  · have : l = [] := List.length_eq_zero_iff.1 hn
    subst this
    exact ⟨B, Nat.le_refl _, fun hlt => absurd rfl hlt, none, 0, rfl, by simp, by omega, .inl rfl⟩
  · refine ⟨g, hb, fun _ => lt_block hg, _, cap, rfl, hnc, by unfold maxLen at hcm; omega, .inr ⟨rfl, cur, hg, by rw [hcs]; omega, ?_⟩⟩
    intro j hj hl
    obtain ⟨e0, e1, e2⟩ := entCells_at l j hl
    have hc : ∀ o, o < l.length * 3 → cur[o]? = (entCells l)[o]? := fun o ho => by
      rw [← cell_block hg o]; exact World.ownsRow.cellAt h' o ho
    exact ⟨by rw [hc _ (by omega)]; exact e0, by rw [hc _ (by omega)]; exact e1, by rw [hc _ (by omega)]; exact e2⟩
theorem row_copy {g cap : Nat} {cs : Array Value} {w : World} {l : List Ent} (hv : Ents w (.slice (some ⟨g, 0, none⟩) l.length cap) l) (hb : w.heap[g]? = some (.cells cs 27 (0, 0))) : RowAt g w (.slice (some ⟨g, 0, none⟩) l.length cap) l := by
  obtain ⟨a, cap', h0, h1, h2, h3⟩ := hv
  cases h0
  refine ⟨_, cap, rfl, h1, h2, ?_⟩
  rcases h3 with h3 | ⟨b, off, h4, -, hc⟩
  · exact .inl h3
  · simp at h4
    obtain ⟨rfl, rfl⟩ := h4
    refine .inr ⟨rfl, cs, hb, ?_, fun j hj hl => ?_⟩
    · by_cases h0 : l.length = 0
      · omega
      · have := (hc (l.length - 1) (by omega)).2.2.1
        rw [cell_block hb] at this
        have := (Array.getElem?_eq_some_iff.1 this).1
        omega
    · obtain ⟨e0, e1, e2, -⟩ := hc j hl
      rw [cell_block hb, Nat.zero_add] at e0 e1 e2
      exact ⟨e0, e1, e2⟩
/-- the body at a block that is known -/
def MarkB (w : World) (m n g : Nat) (cs : Array Value) (e : Ending) (w' : World) : Prop :=
  e = .returned (.int .i64 ((m + 3 * n : Nat) : Int)) ∧ w.grownBy w' (some g) ∧ ∃ cs', cs'.size = cs.size ∧ w'.heap[g]? = some (.cells cs' 27 (0, 0)) ∧ ArrE cs' (markL m n) n
set_option maxHeartbeats 4000000 in
theorem markEntryS_blk (g n cap m : Nat) (cs : Array Value) (w : World) (hb : w.heap[g]? = some (.cells cs 27 (0, 0))) (hs : n * 3 ≤ cs.size) (hn : n ≤ cap) (hc : cap ≤ 9223372036854775807) (h0 : 1 ≤ m) (h1 : m + 3 * n ≤ 9000000) :
    Calls Try.prog 34 #[.slice (some ⟨g, 0, none⟩) n cap, .int .i64 (m : Int)] w (MarkB w m n g cs) := by
  have HG := hide hb
  have hgl : g < w.heap.size := lt_block hb
  clear hb
  go_enter Try.func34, Try.ntmps34
  go_wp2_with fail
  go_loopg [1, 5] n (fun gk s1 s5 wr => w.grownBy wr (some g) ∧ ∃ (k p : Nat) (cr : Array Value), k + gk = n ∧ Hid (p = m + 3 * k) ∧ s1 = .int .i64 (p : Int) ∧ s5 = .int .i64 (k : Int) ∧ cr.size = cs.size ∧ wr.heap[g]? = some (.cells cr 27 (0, 0)) ∧ ArrE cr (markL m n) k)
  case atStart => exact ⟨grown_below (Below.refl _ _) _, 0, m, cs, by omega, hide (by omega), rfl, rfl, rfl, HG.out, fun j hj => by omega⟩
  case round =>
    obtain ⟨hgw, k, p, cr, hk, hp, rfl, rfl, hsz, hblk, harr⟩ := hrel
    have HW := hide hgw
    have HB := hide hblk
    have HA := hide harr
    have hgr : g < wr.heap.size := lt_block hblk
    clear hgw hblk harr
    by_cases hlt : k < n
    · have HS := hide (HA.out.step (by rw [markL_len]; exact hlt) (by rw [markL_len]; omega))
      rw [markL_at] at HS
      rw [← hp.out] at HS
      have hp1 : 1 ≤ p := by have := hp.out; omega
      have hp2 : p ≤ 8999997 := by have := hp.out; omega
      clear HA
      go_wp2_with fail
      refine (markText_any p hp1 (by omega) _).mono ?_
      rintro e w1 ⟨rfl, hb1⟩
      have B1 := hide (blk_own hb1 HB.out)
      have G1 : Hid (w.grownBy w1 (some g)) := grown_trans HW.out (grown_below hb1 _)
      clear hb1
      obtain ⟨u0, x0⟩ : ∃ u, w1.cell? ⟨g, k * 3, none⟩ = some u := ⟨_, by rw [cell_block B1.out]; exact Array.getElem?_eq_getElem (by omega)⟩
      have f0 := froz_block B1.out (k * 3)
      have B1' := hide (set_block B1.out (k * 3) (.string (mkT p)))
      have G1' : Hid (w.grownBy (w1.setCell ⟨g, k * 3, none⟩ (.string (mkT p))) (some g)) := grown_trans G1.out (grown_setCell _ _ _ _)
      go_wp2_with fail
      refine (markText_at _ (p + 1) (by omega) (by omega) (by omega) _).mono ?_
      rintro e w2 ⟨rfl, hb2⟩
      have B2 := hide (blk_own hb2 B1'.out)
      have G2 : Hid (w.grownBy w2 (some g)) := grown_trans G1'.out (grown_below hb2 _)
      clear hb2 x0 f0
      obtain ⟨u1, x1⟩ : ∃ u, w2.cell? ⟨g, k * 3 + 1, none⟩ = some u := ⟨_, by rw [cell_block B2.out]; exact Array.getElem?_eq_getElem (by simp; omega)⟩
      obtain ⟨u2, x2⟩ : ∃ u, w2.cell? ⟨g, k * 3 + 2, none⟩ = some u := ⟨_, by rw [cell_block B2.out]; exact Array.getElem?_eq_getElem (by simp; omega)⟩
      have f1 := froz_block B2.out (k * 3 + 1)
      have f2 := froz_block B2.out (k * 3 + 2)
      go_wp2_with fail
      go_roundg (gk - 1)
      case measure => omega
      case rel => exact ⟨grown_trans (grown_trans G2.out (grown_setCell _ _ _ _)) (grown_setCell _ _ _ _), k + 1, p + 3, _, by omega, hide (by have := hp.out; omega), by go_num, by go_num, by simp [hsz], set_block (set_block B2.out _ _) _ _, by simpa [Int.add_assoc] using HS.out⟩
    · have hkl : k = n := by omega
      have HE := hide hkl
      clear hkl
      go_wp2_with fail
      go_ret
      have hkl := HE.out
      subst hkl
      exact ⟨by rw [hp.out]; rfl, HW.out, cr, hsz, HB.out, HA.out⟩
set_option maxHeartbeats 4000000 in
theorem markEntryS_nil (a : Option Addr) (cap m : Nat) (w : World) (hc : cap ≤ 9223372036854775807) (h1 : m ≤ 9000000) :
    Calls Try.prog 34 #[.slice a 0 cap, .int .i64 (m : Int)] w (fun e w' => e = .returned (.int .i64 (m : Int)) ∧ w' = w) := by
  go_enter Try.func34, Try.ntmps34
  go_wp2_with fail
  go_loopg [1, 5] 0 (fun gk s1 s5 wr => wr = w ∧ s1 = .int .i64 (m : Int) ∧ s5 = .int .i64 0)
  case atStart => exact ⟨rfl, rfl, rfl⟩
  case round =>
    obtain ⟨rfl, rfl, rfl⟩ := hrel
    go_wp2_with fail
    go_ret
    exact ⟨rfl, rfl⟩
def MarkRet (w : World) (m g : Nat) (v : Value) (l : List Ent) (e : Ending) (w' : World) : Prop :=
  e = .returned (.int .i64 ((m + 3 * l.length : Nat) : Int)) ∧ w.grownBy w' (some g) ∧ RowAt g w' v (markL m l.length)
theorem markEntryS_any (g m : Nat) (v : Value) (l : List Ent) (w : World) (hr : RowAt g w v l) (h0 : 1 ≤ m) (h1 : m + 3 * l.length ≤ 9000000) :
    Calls Try.prog 34 #[v, .int .i64 (m : Int)] w (MarkRet w m g v l) := by
  obtain ⟨a, cap, rfl, hn, hc, hd⟩ := hr
  rcases hd with rfl | ⟨rfl, cs, hb, hs, -⟩
  · refine (markEntryS_nil a cap m w hc (by simpa using h1)).mono ?_
    rintro e w' ⟨rfl, rfl⟩
    exact ⟨rfl, grown_below (Below.refl _ _) _, a, cap, rfl, by rw [markL_len]; exact hn, hc, .inl rfl⟩
  · refine (markEntryS_blk g l.length cap m cs w hb hs hn hc h0 h1).mono ?_
    rintro e w' ⟨rfl, hg, cs', hz, hb', ha⟩
    exact ⟨rfl, hg, _, cap, by rw [markL_len], by rw [markL_len]; exact hn, hc, .inr ⟨rfl, cs', hb', by rw [markL_len, hz]; exact hs, by rw [markL_len]; exact ha⟩⟩
end Go.Proofs.Yteikeljklfblmaa
