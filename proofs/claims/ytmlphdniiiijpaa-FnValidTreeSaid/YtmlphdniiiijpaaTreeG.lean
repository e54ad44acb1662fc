/-
  The generator of trees.
-/
import Derived.Test.YtmlphdniiiijpaaTreeS4
import Derived.Test.YtmlphdniiiijpaaTreeS5
import Derived.Test.YtmlphdniiiijpaaTreeLd2
import Derived.Test.YtmlphdniiiijpaaReader
import Derived.Deep.LoopGhost
set_option linter.all false
namespace Go.Proofs.Ytmlphdniiiijpaa
open Go.RowKit
theorem grown_setN {a b : World} {row : Option Nat} {B o : Nat} {v : Value} (h : a.grownBy b row) (hB : a.heap.size ≤ B) : a.grownBy (b.setCell ⟨B, o, none⟩ v) row :=
  ⟨h.os, h.tape, h.output, by simp [World.setCell]; exact h.size, fun i hi hr => (Below.heap_setCell b ⟨B, o, none⟩ v i (by show i ≠ B; omega)).trans (h.block i hi hr)⟩
theorem Rd.setC {w : World} {g B o : Nat} {p : Int} {v : Value} (h : Rd w g p) (hB : g < B) : Rd (w.setCell ⟨B, o, none⟩ v) g p := h.keepBy (grown_setCell _ _ _ _) hB
/-- a leaf with items does not lie in a reader -/
theorem itms_rd {w : World} {g : Nat} {p : Int} {lv : Value} {f : List Itm} (hr : Rd w g p) (h : Itms w lv f) (hf : f ≠ []) {a : Addr} {n c : Nat} (e : lv = .slice (some a) n c) : a.block ≠ g := by
  obtain ⟨ra, len, cap, hb, -⟩ := hr
  obtain ⟨a', cap', rfl, -, -, hd⟩ := h
  obtain ⟨b, off, rfl, -, hc⟩ := hd.resolve_left hf
  injection e with e _ _
  injection e with e
  subst e
  intro q
  simp only at q
  subst q
  obtain ⟨h0, h1⟩ := hc 0 (List.length_pos_iff.2 hf)
  rw [cell_block hb] at h0 h1
  rw [Nat.zero_mul, Nat.add_zero] at h0 h1
  match off, h0, h1 with
  | 0, h0, _ => simp at h0
  | 1, _, h1 => simp at h1
  | k + 2, h0, _ => simp at h0
theorem row_rd {w : World} {g : Nat} {p : Int} {v : Value} {t : List (List Itm)} (hr : Rd w g p) (h : Lvs w v t) (ht : t ≠ []) (hne : ∀ f ∈ t, 1 ≤ f.length) {a : Addr} {n c : Nat} (e : v = .slice (some a) n c) : a.block ≠ g := by
  obtain ⟨ra, len, cap, hb, -, hby, -⟩ := hr
  obtain ⟨a', cap', rfl, -, -, hd⟩ := h
  obtain ⟨b, off, rfl, -, hc⟩ := hd.resolve_left ht
  injection e with e _ _
  injection e with e
  subst e
  intro q
  simp only at q
  subst q
  have hpos := List.length_pos_iff.2 ht
  obtain ⟨lv, h0, h1, -⟩ := hc 0 hpos
  have hf : t[0] ≠ [] := fun e => by have := hne _ (List.getElem_mem hpos); rw [e] at this; simp at this
  obtain ⟨la, lc, rfl, -, -, hld⟩ := h1
  obtain ⟨lb, lo, rfl, -, hlc⟩ := hld.resolve_left hf
  have hfp := List.length_pos_iff.2 hf
  obtain ⟨c0, -⟩ := hlc 0 hfp
  rw [cell_block hb, Nat.add_zero] at h0
  match off, h0 with
  | 0, h0 =>
    simp at h0
    obtain ⟨e1, e2, e3⟩ := h0
    rcases hby with hz | ⟨bb, bo, e4, -, hcc⟩
    · omega
    · rw [e1] at e4
      injection e4 with e4
      injection e4 with e5 e6 _
      subst e5; subst e6
      obtain ⟨x, hx, -⟩ := hcc 0 (by omega)
      rw [Nat.zero_mul, Nat.add_zero] at c0
      rw [Nat.add_zero] at hx
      rw [hx] at c0
      simp at c0
  | 1, h0 => simp at h0
  | k + 2, h0 => simp at h0
/-- leaves none of which lies in the reader -/
def LvsG (g : Nat) (w : World) (v : Value) (t : List (List Itm)) : Prop := Lvs w v t ∧ ∀ a n c, v = .slice (some a) n c → t ≠ [] → a.block ≠ g
theorem LvsG.of {w : World} {g : Nat} {p : Int} {v : Value} {t : List (List Itm)} (hr : Rd w g p) (h : Lvs w v t) (hne : ∀ f ∈ t, 1 ≤ f.length) : LvsG g w v t := ⟨h, fun a n c e ht => row_rd hr h ht hne e⟩
theorem LvsG.keep {w w' : World} {g : Nat} {v : Value} {t : List (List Itm)} (h : LvsG g w v t) (hb : Below w.heap.size w w') : LvsG g w' v t := ⟨h.1.keep hb, h.2⟩
theorem LvsG.by {w w' : World} {g : Nat} {p : Int} {v : Value} {t : List (List Itm)} (h : LvsG g w v t) (hr : Rd w g p) (hg : w.grownBy w' (some g)) : LvsG g w' v t := by
  refine ⟨?_, h.2⟩
  obtain ⟨⟨a, cap, rfl, h1, h2, hd⟩, hoff⟩ := h
  refine ⟨a, cap, rfl, h1, h2, ?_⟩
  rcases hd with hd | ⟨b, off, rfl, hlt, hc⟩
  · exact .inl hd
  · by_cases ht : t = []
    · exact .inl ht
    have hbg : b ≠ g := hoff _ _ _ rfl ht
    refine .inr ⟨b, off, rfl, Nat.lt_of_lt_of_le hlt hg.size, fun i hi => ?_⟩
    obtain ⟨lv, e1, e2, e3⟩ := hc i hi
    exact ⟨lv, (World.cell?_of_block (a := ⟨b, off + i, none⟩) (hg.block b hlt (fun e => hbg (by injection e)))).trans e1, e2.kept hg (fun hf a n c e q => itms_rd hr e2 hf e (by injection q with q; exact q.symm)), e3⟩
theorem OwnR.byRd {w w' : World} {B g : Nat} {p : Int} {v : Value} {t : List (List Itm)} (h : OwnR B w v t) (hB : g < B) (hr : Rd w g p) (hg : w.grownBy w' (some g)) : OwnR B w' v t := by
  obtain ⟨xs, ho, hx⟩ := h
  refine ⟨xs, own_by ho hg (fun e => by have := (World.ownsRow.lt ho _ e).1; omega), hx.1, fun i hi => ?_⟩
  obtain ⟨lv, e1, e2, e3, e4⟩ := hx.2 i hi
  exact ⟨lv, e1, e2.kept hg (fun hf a n c e q => itms_rd hr e2 hf e (by injection q with q; exact q.symm)), e3, e4⟩
structure TInv (w wr : World) (g B : Nat) (v : Value) (t : List (List Itm)) (p : Int) : Prop where
  rd : Rd wr g p
  grown : w.grownBy wr (some g)
  bx : wr.heap[B]? = some (.cells #[v] 25 (0, 0))
  lv : OwnR w.heap.size wr v t
  vt : VT t
  hB : w.heap.size ≤ B
  hg : g < w.heap.size
section
variable {w wr wj : World} {g B : Nat} {v : Value} {t : List (List Itm)} {p q : Int}
theorem TInv.by (h : TInv w wr g B v t p) (hg : wr.grownBy wj (some g)) (hr : Rd wj g q) : TInv w wj g B v t q :=
  ⟨hr, grown_trans h.grown hg, (hg.block B (lt_block h.bx) (fun e => by injection e with e; have := h.hB; have := h.hg; omega)).trans h.bx, h.lv.byRd h.hg h.rd hg, h.vt, h.hB, h.hg⟩
theorem TInv.keep (h : TInv w wr g B v t p) (hb : Below wr.heap.size wr wj) : TInv w wj g B v t p :=
  ⟨h.rd.keep hb h.rd.lt, grown_trans h.grown (grown_below hb _), blk_own hb h.bx, h.lv.keep hb, h.vt, h.hB, h.hg⟩
theorem TInv.size (h : TInv w wr g B v t p) : w.heap.size ≤ wr.heap.size := h.grown.size
end
def RItPost (w : World) (g : Nat) (p : Int) (e : Ending) (w' : World) : Prop := ∃ x : Itm, e = .returned (.agg #[.int .i64 x.k, .int .i64 x.r]) ∧ okI x = true ∧ Rd w' g (p + 1 + 1) ∧ w.grownBy w' (some g)
set_option maxHeartbeats 4000000 in
theorem randomItem_any (g : Nat) (p : Int) (w : World) (h : Rd w g p) (hp : p < 950000000) :
    Calls Try.prog 49 #[.pointer (some ⟨g, 0, none⟩)] w (RItPost w g p) := by
  have hR := hide h
  have hg := h.lt
  clear h
  have HZ := hide (blk_alloc w (.cells #[.int .i64 0, .int .i64 0] 38))
  go_enter Try.func49, Try.ntmps49
  go_wp2_with fail
  refine (pick_any g p 12 _ (hR.out.alloc _) (by omega)).mono ?_
  rintro e w1 ⟨a, rfl, ha, hR1, hg1⟩
  have R1 := hide hR1
  have G1 := hide hg1
  have hZ1 := hide ((hg1.block w.heap.size (lt_block HZ.out) (fun e => by injection e with e; omega)).trans HZ.out)
  clear hR1 hg1
  go_wp2_with fail
  refine (pick_any g (p + 1) 20 _ R1.out (by omega)).mono ?_
  rintro e w2 ⟨b, rfl, hb, hR2, hg2⟩
  have R2 := hide hR2
  have hl1 := lt_block hZ1.out
  have hZ2 := hide ((hg2.block w.heap.size hl1 (fun e => by injection e with e; omega)).trans hZ1.out)
  have G2 : Hid (w.grownBy w2 (some g)) := grown_trans (grown_trans (grown_below (below_box w _) _) G1.out) hg2
  clear hR2 hg2 G1
  have hl2 := lt_block hZ2.out
  have z0 := cell_block hZ2.out 0
  have z1 := cell_block hZ2.out 1
  have f0 := froz_block hZ2.out 0
  have f1 := froz_block hZ2.out 1
  have S2 := set_block (set_block hZ2.out 0 (.int .i64 a)) 1 (.int .i64 b)
  have t0 := cell_block S2 0
  have t1 := cell_block S2 1
  have HOK : Hid (okI ⟨a, b⟩ = true) := decide_eq_true ⟨⟨ha.1, by have := ha.2 (by omega); simp only; omega⟩, ⟨hb.1, by have := hb.2 (by omega); simp only; omega⟩⟩
  have HR : Hid (Rd ((w2.setCell ⟨w.heap.size, 0, none⟩ (.int .i64 a)).setCell ⟨w.heap.size, 1, none⟩ (.int .i64 b)) g (p + 1 + 1)) := (R2.out.setC hg).setC hg
  have HG : Hid (w.grownBy ((w2.setCell ⟨w.heap.size, 0, none⟩ (.int .i64 a)).setCell ⟨w.heap.size, 1, none⟩ (.int .i64 b)) (some g)) := grown_setN (grown_setN G2.out (Nat.le_refl _)) (Nat.le_refl _)
  go_wp2_with fail
  all_goals go_tidy
  refine ⟨rfl, .agg #[.int .i64 a, .int .i64 b], by simp [results, Try.results49, go_sem, t0, t1], ⟨a, b⟩, rfl, HOK.out, HR.out, HG.out⟩
end Go.Proofs.Ytmlphdniiiijpaa
