/-
  The generators of jobs: whatever they draw is five numbers, and only the reader's block is written.
-/
import Derived.Test.YtcfacldbmnlmoaaJobs4
import Derived.Deep.RegionHeld3
import Derived.RegionCalls
import Derived.Deep.RegionWith
import Derived.Deep.DeepCutAuto
import Derived.Deep.LoopGhost
import Derived.Deep.Light
set_option linter.all false
namespace Go.Proofs.Ytcfacldbmnlmoaa
open Go.RowKit
theorem StepTo.valid {s t d k x ev s' t' d' k' x' : Int} (h : StepTo s t d k x ev s' t' d' k' x') (hv : VJ s t d k x) : VJ s' t' d' k' x' := by
  cases h <;> unfold VJ at * <;> omega
theorem Rd.drew {w : World} {g : Nat} {p : Int} (h : Rd w g p) : Rd w.drew g p := h
theorem blk_drew {W : World} {b : Nat} {o : Obj} (h : W.heap[b]? = some o) : W.drew.heap[b]? = some o := h
theorem grown_drew {a b : World} {row : Option Nat} (h : a.grownBy b row) : a.grownBy b.drew row := ⟨h.os, h.tape, h.output, h.size, h.block⟩
theorem blk_set5 {w : World} {b : Nat} {t : TypeId} {a0 a1 a2 a3 a4 c0 c1 c2 c3 c4 : Value} (h : w.heap[b]? = some (.cells #[a0, a1, a2, a3, a4] t (0, 0))) :
    (((((w.setCell ⟨b, 0, none⟩ c0).setCell ⟨b, 1, none⟩ c1).setCell ⟨b, 2, none⟩ c2).setCell ⟨b, 3, none⟩ c3).setCell ⟨b, 4, none⟩ c4).heap[b]? = some (.cells #[c0, c1, c2, c3, c4] t (0, 0)) := by
  rw [set_block (set_block (set_block (set_block (set_block h _ _) _ _) _ _) _ _)]; rfl
theorem blk_other {w : World} {b b' o : Nat} {v : Value} {x : Obj} (h : w.heap[b]? = some x) (hne : b ≠ b') : (w.setCell ⟨b', o, none⟩ v).heap[b]? = some x := (Below.heap_setCell w ⟨b', o, none⟩ v b hne).trans h
theorem grown_setNew {a b : World} {row : Option Nat} {B o : Nat} {v : Value} (h : a.grownBy b row) (hB : a.heap.size ≤ B) : a.grownBy (b.setCell ⟨B, o, none⟩ v) row :=
  ⟨h.os, h.tape, h.output, by simpa [World.setCell] using h.size, fun i hi hn => (Below.heap_setCell b ⟨B, o, none⟩ v i (by simp; omega)).trans (h.block i hi hn)⟩
theorem Rd.setCell {w : World} {g B o : Nat} {p : Int} {v : Value} (h : Rd w g p) (hB : g < B) : Rd (w.setCell ⟨B, o, none⟩ v) g p := h.keepBy (grown_setCell _ _ _ _) hB
theorem stepR_valid {s t d k x ev s' t' d' k' x' : Int} {b : Bool} (h : StepR s t d k x ev s' t' d' k' x' b) : b = true → VJ s' t' d' k' x' := fun hb => by
  cases h with
  | yes _ hv ht => exact ht.valid hv
  | no hn => rw [hb] at hn; cases hn
/-- the loop's relation, but for its counter -/
def DrawInv (w w1 : World) (g : Nat) (p : Int) (m : Nat) (wr : World) : Prop :=
  ∃ (s t d k x pr : Int), wr.heap[w1.heap.size]? = some (.cells #[.int .i64 s, .int .i64 t, .int .i64 d, .int .i64 k, .int .i64 x] 25 (0, 0)) ∧ wr.heap[w.heap.size]? = some (.cells #[.int .i64 0, .int .i64 0, .int .i64 0, .int .i64 0, .int .i64 0] 25 (0, 0)) ∧ VJ s t d k x ∧ Rd wr g pr ∧ pr + m ≤ p + 22 ∧ w.grownBy wr (some g)
def AnyJobRet (w : World) (g : Nat) (p : Int) (e : Ending) (w' : World) : Prop :=
  ∃ s t d k x p' : Int, e = .returned (.agg #[.int .i64 s, .int .i64 t, .int .i64 d, .int .i64 k, .int .i64 x]) ∧ Rd w' g p' ∧ p' ≤ p + 40 ∧ w.grownBy w' (some g)
theorem anyret_mk {w w' : World} {g : Nat} {p s t d k x p' : Int} (hR : Rd w' g p') (hp : p' ≤ p + 40) (hG : w.grownBy w' (some g)) : AnyJobRet w g p (.returned (.agg #[.int .i64 s, .int .i64 t, .int .i64 d, .int .i64 k, .int .i64 x])) w' := ⟨s, t, d, k, x, p', rfl, hR, hp, hG⟩
set_option maxHeartbeats 8000000 in
set_option maxRecDepth 100000 in
theorem anyJob_any (g : Nat) (p : Int) (w : World) (h : Rd w g p) (hp : p < 900000000) :
    Calls Try.prog 29 #[.pointer (some ⟨g, 0, none⟩)] w (AnyJobRet w g p) := by
  have hR := hide h
  have hg : g < w.heap.size := by obtain ⟨_, _, _, hb, _⟩ := h; exact lt_block hb
  clear h
  go_enter Try.func29, Try.ntmps29
  go_wp2_with fail
  refine (one_lit g p _ 6 _ [3, 5, 1, 0, 8, 20] _ ((hR.out.alloc _).alloc _) (by omega) (blk_at (by simp) _) (by omega) (by decide) (by decide)).mono ?_
  rintro e w1 ⟨r, rfl, hr, hR1, hg1⟩
  have V1 : Hid (VJ 0 r 0 0 0) := by simp at hr; unfold Hid VJ; omega
  clear hr
  have B1 := hide (blk_by hg1 (blk_keep (blk_alloc w _) _) (by omega))
  have G1 : Hid (w.grownBy w1 (some g)) := grown_trans (grown_below ((((Below.refl _ _).alloc (Nat.le_refl _) _).alloc (by simp) _)) _) hg1
  have R1 := hide hR1
  have hs1 : w.heap.size < w1.heap.size := lt_block B1.out
  clear hg1 hR1
  go_wp2_with fail
  refine (one_lit g (p + 1) _ 6 _ [4, 8, 12, 2, 0, 20] _ ((R1.out.alloc _).alloc _) (by omega) (blk_at (by simp) _) (by omega) (by decide) (by decide)).mono ?_
  rintro e w2 ⟨n, rfl, hm, hR2, hg2⟩
  have B2 := hide (blk_by hg2 (blk_keep (blk_keep B1.out _) _) (by omega))
  have J2 := hide (blk_by hg2 (blk_keep (blk_alloc w1 _) _) (by omega))
  have G2 : Hid (w.grownBy w2 (some g)) := grown_trans G1.out (grown_trans (grown_below ((((Below.refl _ _).alloc (Nat.le_refl _) _).alloc (by simp) _)) _) hg2)
  have R2 := hide hR2
  obtain ⟨m, rfl⟩ : ∃ m : Nat, n = (m : Int) := ⟨n.toNat, by simp at hm; omega⟩
  have hm20 : m ≤ 20 := by simp at hm; omega
  clear hg2 hR2 hm
  go_wp2_with fail
  go_loopg [4] m (fun gk n wr => gk ≤ 20 ∧ n = .int .i64 (gk : Nat) ∧ DrawInv w w1 g p gk wr)
  case atStart => exact ⟨hm20, rfl, 0, r, 0, 0, 0, p + 1 + 1, J2.out, B2.out, V1.out, R2.out, by omega, G2.out⟩
  case round =>
    clear J2 B2 V1 R2 G2 R1 G1 B1 hm20
    obtain ⟨hm, rfl, s, t, d, k, x, pr, hj, hb, hv, hR, hpr, hG⟩ := hrel
    have Rr := hide hR
    have Vr := hide hv
    have Gr := hide hG
    have Jr := hide hj
    have Br := hide hb
    have hsr : w1.heap.size < wr.heap.size := lt_block hj
    have hsb : w.heap.size < wr.heap.size := lt_block hb
    obtain ⟨⟨c0, c1, c2, c3, c4⟩, f0, f1, f2, f3, f4⟩ := cells5 hj
    have hgb : g ≠ w1.heap.size := by omega
    have hgr : wr.heap.size ≠ g := by omega
    have hgc : w1.heap.size ≠ g := by omega
    have hgz : w.heap.size ≠ g := by omega
    have hsr1 : w1.heap.size ≤ wr.heap.size := by omega
    have hsr2 : w1.heap.size ≤ wr.heap.size + 1 := by omega
    have hgr1 : wr.heap.size + 1 ≠ g := by omega
    clear hR hv hG hj hb
    by_cases h0 : gk = 0
    · subst h0
      go_wp2_with fail
      refine (pick_any g pr 24 wr Rr.out (by omega)).mono ?_
      rintro e w2 ⟨q, rfl, -, hR2, hg2⟩
      have J2 := hide (blk_by hg2 Jr.out hgc)
      have Z2 := hide (blk_by hg2 Br.out hgz)
      have R2 := hide hR2
      have G2 : Hid (w.grownBy w2 (some g)) := grown_trans Gr.out hg2
      obtain ⟨⟨y0, y1, y2, y3, y4⟩, o0, o1, o2, o3, o4⟩ := cells5 J2.out
      obtain ⟨⟨l0, l1, l2, l3, l4⟩, i0, i1, i2, i3, i4⟩ := cells5 Z2.out
      have hs2 : w1.heap.size < w2.heap.size := lt_block J2.out
      have hs2' : w.heap.size < w2.heap.size := lt_block Z2.out
      clear hR2 hg2
      by_cases q0 : q = 0
      · subst q0
        go_wp2_with fail
        refine (one_lit g (pr + 1) _ 3 _ [-1, 21, 0] _ (R2.out.alloc _) (by omega) (blk_alloc _ _) (by omega) (by decide) (by decide)).mono ?_
        rintro e w3 ⟨v, rfl, -, hR3, hg3⟩
        have J3 := hide (blk_by hg3 (blk_keep J2.out _) hgc)
        have Z3 := hide (blk_by hg3 (blk_keep Z2.out _) hgz)
        have R3 := hide hR3
        have G3 : Hid (w.grownBy w3 (some g)) := grown_trans (grown_alloc G2.out _) hg3
        clear y0 y1 y2 y3 y4 o0 o1 o2 o3 o4 l0 l1 l2 l3 l4 i0 i1 i2 i3 i4 hR3 hg3
        obtain ⟨⟨y0, y1, y2, y3, y4⟩, o0, o1, o2, o3, o4⟩ := cells5 J3.out
        obtain ⟨⟨l0, l1, l2, l3, l4⟩, i0, i1, i2, i3, i4⟩ := cells5 Z3.out
        go_wp2_with fail
        go_tidy
        refine ⟨rfl, ?_⟩
        simp [results, Try.results29, go_sem, y0, y1, y2, y3, y4, l0, l1, l2, l3, l4]
        exact anyret_mk ((((((R3.out.setCell (by omega)).setCell (by omega)).setCell (by omega)).setCell (by omega)).setCell (by omega)).setCell (by omega)) (by omega) (grown_setNew (grown_setNew (grown_setNew (grown_setNew (grown_setNew (grown_setNew G3.out (by omega)) (by omega)) (by omega)) (by omega)) (by omega)) (by omega))
      by_cases q1 : q = 1
      · subst q1
        go_wp2_with fail
        refine (one_lit g (pr + 1) _ 4 _ [-1, 3, 4, 5] _ (R2.out.alloc _) (by omega) (blk_alloc _ _) (by omega) (by decide) (by decide)).mono ?_
        rintro e w3 ⟨v, rfl, -, hR3, hg3⟩
        have J3 := hide (blk_by hg3 (blk_keep J2.out _) hgc)
        have Z3 := hide (blk_by hg3 (blk_keep Z2.out _) hgz)
        have R3 := hide hR3
        have G3 : Hid (w.grownBy w3 (some g)) := grown_trans (grown_alloc G2.out _) hg3
        clear y0 y1 y2 y3 y4 o0 o1 o2 o3 o4 l0 l1 l2 l3 l4 i0 i1 i2 i3 i4 hR3 hg3
        obtain ⟨⟨y0, y1, y2, y3, y4⟩, o0, o1, o2, o3, o4⟩ := cells5 J3.out
        obtain ⟨⟨l0, l1, l2, l3, l4⟩, i0, i1, i2, i3, i4⟩ := cells5 Z3.out
        go_wp2_with fail
        go_tidy
        refine ⟨rfl, ?_⟩
        simp [results, Try.results29, go_sem, y0, y1, y2, y3, y4, l0, l1, l2, l3, l4]
        exact anyret_mk ((((((R3.out.setCell (by omega)).setCell (by omega)).setCell (by omega)).setCell (by omega)).setCell (by omega)).setCell (by omega)) (by omega) (grown_setNew (grown_setNew (grown_setNew (grown_setNew (grown_setNew (grown_setNew G3.out (by omega)) (by omega)) (by omega)) (by omega)) (by omega)) (by omega))
      by_cases q2 : q = 2
      · subst q2
        go_wp2_with fail
        refine (one_lit g (pr + 1) _ 3 _ [-1, 20, 21] _ (R2.out.alloc _) (by omega) (blk_alloc _ _) (by omega) (by decide) (by decide)).mono ?_
        rintro e w3 ⟨v, rfl, -, hR3, hg3⟩
        have J3 := hide (blk_by hg3 (blk_keep J2.out _) hgc)
        have Z3 := hide (blk_by hg3 (blk_keep Z2.out _) hgz)
        have R3 := hide hR3
        have G3 : Hid (w.grownBy w3 (some g)) := grown_trans (grown_alloc G2.out _) hg3
        clear y0 y1 y2 y3 y4 o0 o1 o2 o3 o4 l0 l1 l2 l3 l4 i0 i1 i2 i3 i4 hR3 hg3
        obtain ⟨⟨y0, y1, y2, y3, y4⟩, o0, o1, o2, o3, o4⟩ := cells5 J3.out
        obtain ⟨⟨l0, l1, l2, l3, l4⟩, i0, i1, i2, i3, i4⟩ := cells5 Z3.out
        go_wp2_with fail
        go_tidy
        refine ⟨rfl, ?_⟩
        simp [results, Try.results29, go_sem, y0, y1, y2, y3, y4, l0, l1, l2, l3, l4]
        exact anyret_mk ((((((R3.out.setCell (by omega)).setCell (by omega)).setCell (by omega)).setCell (by omega)).setCell (by omega)).setCell (by omega)) (by omega) (grown_setNew (grown_setNew (grown_setNew (grown_setNew (grown_setNew (grown_setNew G3.out (by omega)) (by omega)) (by omega)) (by omega)) (by omega)) (by omega))
      go_wp2_with fail
      go_tidy
      refine ⟨rfl, ?_⟩
      simp [results, Try.results29, go_sem, y0, y1, y2, y3, y4, l0, l1, l2, l3, l4]
      exact anyret_mk (((((R2.out.setCell (by omega)).setCell (by omega)).setCell (by omega)).setCell (by omega)).setCell (by omega)) (by omega) (grown_setNew (grown_setNew (grown_setNew (grown_setNew (grown_setNew G2.out (by omega)) (by omega)) (by omega)) (by omega)) (by omega))
    · go_upto_region 5 with fail
      go_cut [5, 6] (fun s5 s6 wx => ∃ (b5 : Nat) (s' t' d' k' x' : Int) (ok : Bool), s5 = .pointer (some ⟨b5, 0, none⟩) ∧ s6 = .bool ok ∧ wx.heap[b5]? = some (.cells #[.int .i64 s', .int .i64 t', .int .i64 d', .int .i64 k', .int .i64 x'] 25 (0, 0)) ∧ (ok = true → VJ s' t' d' k' x') ∧ wx.heap[w1.heap.size]? = some (.cells #[.int .i64 s, .int .i64 t, .int .i64 d, .int .i64 k, .int .i64 x] 25 (0, 0)) ∧ wx.heap[w.heap.size]? = some (.cells #[.int .i64 0, .int .i64 0, .int .i64 0, .int .i64 0, .int .i64 0] 25 (0, 0)) ∧ Rd wx g (pr + 1) ∧ wr.grownBy wx (some g))
      case first =>
        go_region_with (first
        | (go_at_call 33; refine (one_lit g pr _ 8 _ [1, 2, 2, 3, 4, 5, 5, 2] _ (by first | exact (Rr.out.alloc _).drew | exact ((Rr.out.alloc _).alloc _).drew) (by omega) (by first | exact blk_drew (blk_alloc _ _) | exact blk_drew (blk_keep (blk_alloc _ _) _) | exact blk_drew (blk_at (by simp) _)) (by omega) (by decide) (by decide)).mono ?_; rintro e w3 ⟨ev, rfl, -, hR3, hg3⟩; have hz3c : w1.heap.size < w3.heap.size := (by have := hg3.size; simp at this; omega); have hz3 : wr.heap.size < w3.heap.size := (by have := hg3.size; simp at this; omega); (try have hz3b : wr.heap.size + 1 < w3.heap.size := (by have := hg3.size; simp at this; omega)); have HR3 := hide hR3; have HG3 := hide hg3; clear hR3 hg3; have J3 := hide (blk_by HG3.out (by first | exact blk_drew (blk_keep Jr.out _) | exact blk_drew (blk_keep (blk_keep Jr.out _) _)) hgc); obtain ⟨⟨j0, j1, j2, j3, j4⟩, -⟩ := cells5 J3.out; have Z3 := hide (blk_by HG3.out (by first | exact blk_drew (blk_keep Br.out _) | exact blk_drew (blk_keep (blk_keep Br.out _) _)) hgz); have G3 : Hid (wr.grownBy w3 (some g)) := (by first | exact grown_trans (grown_drew (grown_alloc (World.grownBy.refl _ _) _)) HG3.out | exact grown_trans (grown_drew (grown_alloc (grown_alloc (World.grownBy.refl _ _) _) _)) HG3.out); (first | (have A3 := hide (blk_by (b := wr.heap.size) HG3.out (blk_drew (blk_keep (blk_alloc wr (.cells #[.int .i64 0, .int .i64 0, .int .i64 0, .int .i64 0, .int .i64 0] 25)) _)) hgr); obtain ⟨⟨p0, p1, p2, p3, p4⟩, q0, q1, q2, q3, q4⟩ := cells5 A3.out) | (have A3 := hide (blk_by (b := wr.heap.size + 1) HG3.out (blk_drew (blk_at (W := wr.alloc _) (by simp) (.cells #[.int .i64 0, .int .i64 0, .int .i64 0, .int .i64 0, .int .i64 0] 25))) hgr1); obtain ⟨⟨p0, p1, p2, p3, p4⟩, q0, q1, q2, q3, q4⟩ := cells5 A3.out) | skip))
        | (go_at_call 28; refine (sstep_any _ _ _ _ _ _ _ Vr.out).mono ?_; rintro e w4 ⟨s', t', d', k', x', b, rfl, hS, hb4⟩; have HS := hide hS; have HB4 := hide hb4; clear hS hb4; have R4 : Hid (Rd w4 g (pr + 1)) := (by first | exact HR3.out.keep HB4.out HR3.out.lt | exact (HR3.out.alloc _).keep HB4.out (HR3.out.alloc _).lt); have J4 := hide (blk_own HB4.out (by first | exact J3.out | exact blk_keep J3.out _)); have Z4 := hide (blk_own HB4.out (by first | exact Z3.out | exact blk_keep Z3.out _)); have G4 : Hid (wr.grownBy w4 (some g)) := (by first | exact grown_trans G3.out (grown_below HB4.out _) | exact grown_trans (grown_alloc G3.out _) (grown_below HB4.out _)); (first | (have A4 := hide (blk_own HB4.out A3.out); obtain ⟨⟨v0, v1, v2, v3, v4⟩, z0, z1, z2, z3, z4⟩ := cells5 A4.out) | (have A4 := hide (blk_own HB4.out (blk_alloc w3 (.cells #[.int .i64 0, .int .i64 0, .int .i64 0, .int .i64 0, .int .i64 0] 25))); obtain ⟨⟨v0, v1, v2, v3, v4⟩, z0, z1, z2, z3, z4⟩ := cells5 A4.out) | skip)))
        all_goals
          go_wp2_with fail
          go_meet
          have hok := stepR_valid HS.out
          refine ⟨_, s', t', d', k', x', b, rfl, rfl, ?_, hok, ?_, ?_, ?_, ?_⟩
          · first | (with_reducible exact blk_alloc w4 _) | (with_reducible exact blk_set5 A4.out)
          · first | (with_reducible exact blk_keep J4.out _) | (with_reducible exact blk_other (blk_other (blk_other (blk_other (blk_other J4.out (by omega)) (by omega)) (by omega)) (by omega)) (by omega))
          · first | (with_reducible exact blk_keep Z4.out _) | (with_reducible exact blk_other (blk_other (blk_other (blk_other (blk_other Z4.out (by omega)) (by omega)) (by omega)) (by omega)) (by omega))
          · first | (with_reducible exact R4.out.alloc _) | (with_reducible exact ((((R4.out.setCell (by omega)).setCell (by omega)).setCell (by omega)).setCell (by omega)).setCell (by omega))
          · first | (with_reducible exact grown_alloc G4.out _) | (with_reducible exact grown_setNew (grown_setNew (grown_setNew (grown_setNew (grown_setNew G4.out (by omega)) (by omega)) (by omega)) (by omega)) (by omega))
      case rest =>
        obtain ⟨b5, s', t', d', k', x', ok, rfl, rfl, h5, hok, hj, hb, hR, hG⟩ := hcut
        have K5 := hide h5
        have Kj := hide hj
        have Kb := hide hb
        have KR := hide hR
        have KG := hide hG
        obtain ⟨⟨e0, e1, e2, e3, e4⟩, -⟩ := cells5 h5
        obtain ⟨⟨m0, m1, m2, m3, m4⟩, n0, n1, n2, n3, n4⟩ := cells5 hj
        have Hok := hide hok
        clear h5 hj hb hR hG hok
        cases ok with
        | false =>
          go_wp2_with fail
          go_roundg (gk - 1)
          case measure => omega
          case rel => exact ⟨by omega, by go_num, s, t, d, k, x, pr + 1, Kj.out, Kb.out, Vr.out, KR.out, by omega, grown_trans Gr.out KG.out⟩
        | true =>
          go_wp2_with fail
          go_roundg (gk - 1)
          case measure => omega
          case rel => exact ⟨by omega, by go_num, s', t', d', k', x', pr + 1, blk_set5 Kj.out, blk_other (blk_other (blk_other (blk_other (blk_other Kb.out (by omega)) (by omega)) (by omega)) (by omega)) (by omega), (by first | exact Hok.out rfl | exact Hok.out trivial), ((((KR.out.setCell (by omega)).setCell (by omega)).setCell (by omega)).setCell (by omega)).setCell (by omega), by omega, grown_setNew (grown_setNew (grown_setNew (grown_setNew (grown_setNew (grown_trans Gr.out KG.out) (by omega)) (by omega)) (by omega)) (by omega)) (by omega)⟩
end Go.Proofs.Ytcfacldbmnlmoaa
