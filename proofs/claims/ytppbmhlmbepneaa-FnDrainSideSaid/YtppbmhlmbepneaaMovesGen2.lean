/-
  The generators of CanBeUnique, FirstClash and DrainSide.
-/
import Derived.Test.YtppbmhlmbepneaaWkBase
set_option linter.all false
namespace Go.Proofs.Ytppbmhlmbepneaa
open Go.RowKit
theorem CanOf.ex (l : List Itm) (ms : List RMove) : ∃ b, CanOf l ms b := by
  by_cases c : vMoves l ms ∧ Dbl (ordL (rowsAt l ms ms.length)) (-1)
  · exact ⟨true, fun _ => c, fun _ => rfl⟩
  · exact ⟨false, fun h => (by cases h), fun h => absurd h c⟩
theorem itmCells_set (l : List Itm) (k : Nat) (x : Int) (h : k < l.length) : (itmCells l).set (k * 2) (.int .i64 x) = itmCells (l.set k ⟨x, l[k].r⟩) := by
  induction l generalizing k with
  | nil => simp at h
  | cons y l ih =>
    cases k with
    | zero => rfl
    | succ k =>
      have := ih k (by simpa using h)
      show (.int .i64 y.k :: .int .i64 y.r :: itmCells l).set ((k + 1) * 2) _ = _
      rw [show (k + 1) * 2 = k * 2 + 1 + 1 by omega, List.set_cons_succ, List.set_cons_succ, this]
      rfl
theorem MInv.putK {w wi : World} {g gr c k : Nat} {v : Value} {l : List Itm} {ms : List RMove} {p : Int} (x : Int) (h : MInv w wi g (.slice (some ⟨gr, 0, none⟩) l.length c) l v ms p) (hk : k < l.length) :
    MInv w (wi.setCell ⟨gr, k * 2, none⟩ (.int .i64 x)) g (.slice (some ⟨gr, 0, none⟩) l.length c) (l.set k ⟨x, l[k].r⟩) v ms p := by
  have hgr := (World.ownsRow.lt h.oi gr rfl).1
  have hlo := h.lo
  have s := World.ownsRow.stored h.oi (k * 2) (.int .i64 x)
  rw [itmCells_set l k x hk] at s
  have ho : OwnI w.heap.size (wi.setCell ⟨gr, k * 2, none⟩ (.int .i64 x)) (.slice (some ⟨gr, 0, none⟩) l.length c) (l.set k ⟨x, l[k].r⟩) := by
    unfold OwnI
    rw [List.length_set]
    exact s.1
  exact ⟨h.rd.keepBy (grown_setCell _ _ _ _) (by omega), grown_new h.grown (grown_setCell _ _ _ _) hgr, ho, own_by h.om (grown_setCell _ _ _ _) (fun e => h.sep gr rfl e), h.sep, h.lo⟩
def DrawPost2 (w : World) (e : Ending) (w' : World) : Prop := ∃ (vr : Value) (l : List Itm) (v : Value) (ms : List RMove), e = .returned (.tuple #[vr, v]) ∧ OwnI w.heap.size w' vr l ∧ OwnM w.heap.size w' v ms ∧ l.length ≤ 200 ∧ ms.length ≤ 200 ∧ Below w.heap.size w w'
set_option maxHeartbeats 8000000 in
set_option maxRecDepth 100000 in
theorem drawCanBeUnique_any (v : Value) (w : World) (h : BytesAt w v) :
    Calls Try.prog 32 #[v] w (DrawPost2 w) := by
  have HV := hide h
  clear h
  go_enter Try.func32, Try.ntmps32
  go_wp2_with fail
  refine (newReader_any v w HV.out).mono ?_
  rintro e w1 ⟨g, rfl, hg, hr, hb1⟩
  have R1 := hide hr
  have HB1 := hide hb1
  clear hr hb1
  go_wp2_with fail
  refine (anyMoves_any g 0 w1 R1.out (by omega) (by omega)).mono ?_
  rintro e w2 ⟨vr, l, vm, ms, q, rfl, hI, hl9, hm17, hq0, hq1⟩
  have HI := hide hI
  obtain ⟨a2, c2, rfl, -⟩ := own_slc hI.om
  obtain ⟨a1, c1, rfl, -⟩ := own_slc hI.oi
  clear hI R1
  go_wp2_with fail
  refine (pick_any g q 2 w2 HI.out.rd (by omega)).mono ?_
  rintro e w3 ⟨r, rfl, -, hR3, hg3⟩
  have I3 := hide (HI.out.by hg3 hR3)
  clear hR3 hg3 HI
  have FIN : Hid (∀ {wj : World} {l' : List Itm} {v' : Value}, MInv w1 wj g v' l' (.slice a2 ms.length c2) ms (q + 1) → l'.length ≤ 9 → OwnI w.heap.size wj v' l' ∧ OwnM w.heap.size wj (.slice a2 ms.length c2) ms ∧ l'.length ≤ 200 ∧ ms.length ≤ 200 ∧ Below w.heap.size w wj) := fun hI hl =>
    ⟨own_mono hI.oi HB1.out.size, own_mono hI.om HB1.out.size, by omega, by omega, HB1.out.grown hI.grown HB1.out.size (fun q hq => by cases hq; exact hg)⟩
  by_cases hr0 : r = 0
  · subst hr0
    go_wp2_with fail
    go_loopg [7] l.length (fun gk s7 wr => ∃ k : Nat, k + gk = l.length ∧ s7 = .int .i64 (k : Int) ∧ ∃ l' : List Itm, Hid (l'.length = l.length) ∧ MInv w1 wr g (.slice a1 l.length c1) l' (.slice a2 ms.length c2) ms (q + 1))
    case atStart => exact ⟨0, by omega, rfl, l, hide rfl, I3.out⟩
    case round =>
      clear I3
      obtain ⟨k, hk, rfl, l', hl', hI⟩ := hrel
      by_cases hlt : k < l.length
      · have hI' : MInv w1 wr g (.slice a1 l'.length c1) l' (.slice a2 ms.length c2) ms (q + 1) := by rw [hl'.out]; exact hI
        obtain ⟨gr, rfl, e0, -⟩ := row_key hI'.oi (show k < l'.length by rw [hl'.out]; exact hlt)
        have f0 := World.ownsRow.frozenAt hI'.oi (k * 2)
        obtain ⟨l2, hl2⟩ : ∃ l2, l2 = l'.set k ⟨20 + (k : Int), (l'[k]'(by rw [hl'.out]; exact hlt)).r⟩ := ⟨_, rfl⟩
        have HN := hide (hI'.putK (20 + (k : Int)) (show k < l'.length by rw [hl'.out]; exact hlt))
        have HL2 : Hid (l2.length = l.length) := by unfold Hid; rw [hl2, List.length_set]; exact hl'.out
        rw [← hl2] at HN
        have HN2 : Hid (MInv w1 (wr.setCell ⟨gr, k * 2, none⟩ (.int .i64 (20 + (k : Int)))) g (.slice (some ⟨gr, 0, none⟩) l.length c1) l2 (.slice a2 ms.length c2) ms (q + 1)) := by
          have q := HN.out
          rw [hl'.out] at q
          exact q
        generalize (l'[k]'_).k = xk at *
        clear HN hl2
        clear hI hI'
        go_wp2_with fail
        go_roundg (gk - 1)
        case measure => omega
        case rel => exact ⟨k + 1, by omega, by go_num, l2, HL2, HN2.out⟩
      · have HI := hide hI
        clear hI
        go_wp2_with fail
        go_ret2
        obtain ⟨f1, f2, f3, f4, f5⟩ := FIN.out HI.out (by rw [hl'.out]; exact hl9)
        exact ⟨_, l', _, ms, rfl, f1, f2, f3, f4, f5⟩
  · have hr' : (r == 0) = false := by simpa using hr0
    go_wp2_with fail
    go_ret2
    obtain ⟨f1, f2, f3, f4, f5⟩ := FIN.out I3.out hl9
    exact ⟨_, l, _, ms, rfl, f1, f2, f3, f4, f5⟩
set_option maxHeartbeats 4000000 in
set_option maxRecDepth 100000 in
theorem drawFirstClash_any (v : Value) (w : World) (h : BytesAt w v) :
    Calls Try.prog 35 #[v] w (DrawPost2 w) := by
  have HC := hide (drawCanBeUnique_any v w h)
  clear h
  go_enter Try.func35, Try.ntmps35
  go_wp2_with fail
  refine HC.out.mono ?_
  rintro e w2 ⟨vr, l, vm, ms, rfl, ho, hm, hl9, hm17, hb⟩
  have HO := hide ho
  have HM := hide hm
  have HB := hide hb
  obtain ⟨a1, c1, rfl, -⟩ := own_slc ho
  obtain ⟨a2, c2, rfl, -⟩ := own_slc hm
  clear ho hm hb HC
  go_wp2_with fail
  go_ret2
  exact ⟨_, l, _, ms, rfl, HO.out, HM.out, hl9, hm17, HB.out⟩
set_option maxHeartbeats 8000000 in
set_option maxRecDepth 100000 in
theorem drawDrainSide_any (v : Value) (w : World) (h : BytesAt w v) :
    Calls Try.prog 26 #[v] w (DrawPost2 w) := by
  have HV := hide h
  clear h
  go_enter Try.func26, Try.ntmps26
  go_wp2_with fail
  refine (newReader_any v w HV.out).mono ?_
  rintro e w1 ⟨g, rfl, hg, hr, hb1⟩
  have R1 := hide hr
  have HB1 := hide hb1
  clear hr hb1
  go_wp2_with fail
  refine (anyMoves_any g 0 w1 R1.out (by omega) (by omega)).mono ?_
  rintro e w2 ⟨vr, l, vm, ms, q, rfl, hI, hl9, hm17, hq0, hq1⟩
  have H2 : Hid (Below w.heap.size w w2) := HB1.out.grown hI.grown HB1.out.size (fun q hq => by cases hq; exact hg)
  have hlo := hI.lo
  have RD := hide hI.rd
  have RI := hide hI.oi
  have RM := hide hI.om
  have hs12 := hI.size
  obtain ⟨a2, c2, rfl, -⟩ := own_slc hI.om
  obtain ⟨a1, c1, rfl, -⟩ := own_slc hI.oi
  clear hI R1
  go_wp2_with fail
  refine (sSideOf_any _ _ l ms w2 (OwnI.itms RI.out) (nilOk_own RI.out) (OwnM.rows RM.out)).mono ?_
  rintro e w3 ⟨v3, r3, rfl, hrel, ho3, hb⟩
  have hl3 := hrel.len
  have H3 : Hid (Below w.heap.size w w3) := H2.out.trans (hb.mono H2.out.size)
  have RD3 := hide (RD.out.keep hb RD.out.lt)
  have RI3 := hide (OwnI.keep RI.out hb)
  have RM3 := hide (OwnM.keep RM.out hb)
  have SD : Hid (OwnM w1.heap.size w3 v3 r3) := own_mono ho3 hs12
  obtain ⟨a3, c3, rfl, -⟩ := own_slc ho3
  clear hb ho3 hrel RD RI RM H2
  have HFR : Hid (∀ (size n : Nat) (t : TypeId) (v : Value) (xs : List Value), w3.ownsRow w1.heap.size t size v n xs → v.ownBlock ≠ some g) := fun size n t v xs h' he => by have := (World.ownsRow.lt h' _ he).1; omega
  go_wp2_with fail
  refine (pick_any g q 16 w3 RD3.out (by omega)).mono ?_
  rintro e w4 ⟨r, rfl, -, hR4, hg4⟩
  have H4 : Hid (Below w.heap.size w w4) := H3.out.grown hg4 H3.out.size (fun q hq => by cases hq; exact hg)
  have RI4 : Hid (OwnI w1.heap.size w4 _ l) := own_by RI3.out hg4 (HFR.out _ _ _ _ _ RI3.out)
  have RM4 : Hid (OwnM w1.heap.size w4 _ ms) := own_by RM3.out hg4 (HFR.out _ _ _ _ _ RM3.out)
  have SD4 : Hid (OwnM w1.heap.size w4 _ r3) := own_by SD.out hg4 (HFR.out _ _ _ _ _ SD.out)
  have hB1 := HB1.out.size
  clear hR4 hg4 RI3 RM3 SD HFR RD3 H3
  by_cases hr0 : r = 0
  · subst hr0
    go_wp2_with fail
    refine (sIndexOf_any _ l w4 (OwnI.itms RI4.out)).mono ?_
    rintro e w5 ⟨v5, r5, rfl, hrel, ho5, hb⟩
    have hl5 := IdxOf.len hrel
    have H5 : Hid (Below w.heap.size w w5) := H4.out.trans (hb.mono H4.out.size)
    have O5 : Hid (OwnI w.heap.size w5 v5 r5) := own_mono ho5 H4.out.size
    have M5 : Hid (OwnM w.heap.size w5 _ ms) := own_mono (OwnM.keep RM4.out hb) hB1
    obtain ⟨a5, c5, rfl, -⟩ := own_slc ho5
    clear hb ho5 hrel
    go_wp2_with fail
    go_ret2
    exact ⟨_, r5, _, ms, rfl, O5.out, M5.out, hl5, by omega, H5.out⟩
  · have hr' : (r == 0) = false := by simpa using hr0
    go_wp2_with fail
    refine (sIndexOf_any _ l w4 (OwnI.itms RI4.out)).mono ?_
    rintro e w5 ⟨v5, r5, rfl, hrel, ho5, hb⟩
    have hl5 := IdxOf.len hrel
    have H5 : Hid (Below w.heap.size w w5) := H4.out.trans (hb.mono H4.out.size)
    have O5 : Hid (OwnI w.heap.size w5 v5 r5) := own_mono ho5 H4.out.size
    have M5 : Hid (OwnM w.heap.size w5 _ r3) := own_mono (OwnM.keep SD4.out hb) hB1
    obtain ⟨a5, c5, rfl, -⟩ := own_slc ho5
    clear hb ho5 hrel
    go_wp2_with fail
    go_ret2
    exact ⟨_, r5, _, r3, rfl, O5.out, M5.out, hl5, hl3, H5.out⟩
end Go.Proofs.Ytppbmhlmbepneaa
