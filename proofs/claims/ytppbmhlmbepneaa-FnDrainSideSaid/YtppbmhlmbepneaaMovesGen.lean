/-
  The generator of rows and moves.
-/
import Derived.Test.YtppbmhlmbepneaaItemGen
import Derived.Test.YtppbmhlmbepneaaOwnM
import Derived.Test.YtppbmhlmbepneaaBS
import Derived.Deep.RegionWith
import Derived.Deep.DeepCutAuto
import Derived.RegionCalls
set_option linter.all false
namespace Go.Proofs.Ytppbmhlmbepneaa
open Go.RowKit
structure MInv (w wi : World) (g : Nat) (vr : Value) (l : List Itm) (v : Value) (ms : List RMove) (p : Int) : Prop where
  rd : Rd wi g p
  grown : w.grownBy wi (some g)
  oi : OwnI w.heap.size wi vr l
  om : OwnM w.heap.size wi v ms
  sep : ∀ k, vr.ownBlock = some k → v.ownBlock ≠ some k
  lo : g < w.heap.size
section
variable {w wi wj : World} {g : Nat} {vr v : Value} {l : List Itm} {ms : List RMove} {p q : Int}
theorem MInv.size (h : MInv w wi g vr l v ms p) : w.heap.size ≤ wi.heap.size := h.grown.size
theorem MInv.by (h : MInv w wi g vr l v ms p) (hg : wi.grownBy wj (some g)) (hr : Rd wj g q) : MInv w wj g vr l v ms q := by
  have hn : ∀ {size n : Nat} {e : TypeId} {v : Value} {xs : List Value}, wi.ownsRow w.heap.size e size v n xs → v.ownBlock ≠ some g := fun h' e => by have := (World.ownsRow.lt h' _ e).1; have := h.lo; omega
  exact ⟨hr, grown_trans h.grown hg, own_by h.oi hg (hn h.oi), own_by h.om hg (hn h.om), h.sep, h.lo⟩
theorem MInv.alloc (h : MInv w wi g vr l v ms p) (o : Obj) : MInv w (wi.alloc o) g vr l v ms p := ⟨h.rd.alloc o, grown_alloc h.grown o, h.oi.alloc o, h.om.alloc o, h.sep, h.lo⟩
theorem MInv.free (h : MInv w wi g vr l v ms p) : vr.ownBlock ≠ some wi.heap.size ∧ v.ownBlock ≠ some wi.heap.size := by
  have hn : ∀ {size n : Nat} {e : TypeId} {v : Value} {xs : List Value}, wi.ownsRow w.heap.size e size v n xs → v.ownBlock ≠ some wi.heap.size := fun h' e => by have := (World.ownsRow.lt h' _ e).2; omega
  exact ⟨hn h.oi, hn h.om⟩
theorem MInv.set {b j : Nat} {u : Value} (h : MInv w wi g vr l v ms p) (hb : w.heap.size ≤ b) (hn : vr.ownBlock ≠ some b ∧ v.ownBlock ≠ some b) : MInv w (wi.setCell ⟨b, j, none⟩ u) g vr l v ms p :=
  ⟨h.rd.keepBy (grown_setCell _ _ _ _) (Nat.lt_of_lt_of_le h.lo hb), grown_new h.grown (grown_setCell _ _ _ _) hb, own_by h.oi (grown_setCell _ _ _ _) hn.1, own_by h.om (grown_setCell _ _ _ _) hn.2, h.sep, h.lo⟩
theorem MInv.app {w' : World} {gm cap g' cap' : Nat} {o : Obj} (e : RMove) (h : MInv w wi g vr l (.slice (some ⟨gm, 0, none⟩) ms.length cap) ms p)
    (hown : w'.ownsRow w.heap.size 42 4 (.slice (some ⟨g', 0, none⟩) (ms.length + 1) cap') (ms.length + 1) (mvCells ms ++ [.bool e.scan, .bool e.gone, .int .i64 e.row, .int .i64 e.key]))
    (hgrow : (wi.alloc o).grownBy w' (Value.slice (some ⟨gm, 0, none⟩) ms.length cap).ownBlock) (hat : (Value.slice (some ⟨gm, 0, none⟩) ms.length cap).ownBlock = some g' ∨ wi.heap.size ≤ g') :
    MInv w w' g vr l (.slice (some ⟨g', 0, none⟩) (ms ++ [e]).length cap') (ms ++ [e]) p := by
  have hgm := (World.ownsRow.lt h.om gm rfl).1
  have hlo := h.lo
  have hgrow' : (wi.alloc o).grownBy w' (some gm) := hgrow
  refine ⟨(h.rd.alloc o).keepBy hgrow' (by omega), grown_new (grown_alloc h.grown o) hgrow' hgm, own_by (h.oi.alloc o) hgrow' (fun e => h.sep gm e rfl), ?_, ?_, h.lo⟩
  · unfold OwnM
    rw [mvCells_app, List.length_append]
    exact hown
  · intro k hk e'
    have e' : g' = k := by injection e'
    subst e'
    rcases hat with h1 | h1
    · exact h.sep _ hk h1
    · have := (World.ownsRow.lt h.oi _ hk).2; omega
theorem MInv.put0 {gm cap : Nat} {x : RMove} {t : List RMove} (e : RMove) (h : MInv w wi g vr l (.slice (some ⟨gm, 0, none⟩) (x :: t).length cap) (x :: t) p) :
    MInv w ((((wi.setCell ⟨gm, 0, none⟩ (.bool e.scan)).setCell ⟨gm, 1, none⟩ (.bool e.gone)).setCell ⟨gm, 2, none⟩ (.int .i64 e.row)).setCell ⟨gm, 3, none⟩ (.int .i64 e.key)) g vr l (.slice (some ⟨gm, 0, none⟩) (e :: t).length cap) (e :: t) p := by
  have hgm := (World.ownsRow.lt h.om gm rfl).1
  have hlo := h.lo
  have s0 := World.ownsRow.stored h.om 0 (.bool e.scan)
  have s1 := World.ownsRow.stored s0.1 1 (.bool e.gone)
  have s2 := World.ownsRow.stored s1.1 2 (.int .i64 e.row)
  have s3 := World.ownsRow.stored s2.1 3 (.int .i64 e.key)
  have hg := grown_trans (grown_trans (grown_trans s0.2 s1.2) s2.2) s3.2
  exact ⟨h.rd.keepBy hg (by omega), grown_new h.grown hg hgm, own_by h.oi hg (fun e => h.sep gm e rfl), s3.1, h.sep, h.lo⟩
end
def MovesPost (w : World) (g : Nat) (e : Ending) (w' : World) : Prop := ∃ (vr : Value) (l : List Itm) (v : Value) (ms : List RMove) (q : Int), e = .returned (.tuple #[vr, v]) ∧ MInv w w' g vr l v ms q ∧ l.length ≤ 9 ∧ ms.length ≤ 17 ∧ 0 ≤ q ∧ q ≤ 1000
set_option maxHeartbeats 16000000 in
set_option maxRecDepth 100000 in
theorem anyMoves_any (g : Nat) (p : Int) (w : World) (h : Rd w g p) (hp : p ≤ 300) (hp0 : 0 ≤ p) :
    Calls Try.prog 48 #[.pointer (some ⟨g, 0, none⟩)] w (MovesPost w g) := by
  have hR := hide h
  have hg : g < w.heap.size := h.lt
  clear h
  obtain ⟨i0, hi, hz0, hz1, hz2⟩ := info_parts infoMove
  go_enter Try.func48, Try.ntmps48
  go_wp2_with fail
  refine (anyRows_any g p w hR.out (by omega) hp0).mono ?_
  rintro e w1 ⟨gv, capv, l, pr, rfl, ho, hl9, hrd, ⟨hpr0, hpr⟩, hgr⟩
  have hgv := World.ownsRow.lt ho gv rfl
  have hsz := hgr.size
  have I1 : Hid (MInv w (w1.alloc (.cells #[] 42)) g (.slice (some ⟨gv, 0, none⟩) l.length capv) l (.slice (some ⟨w1.heap.size, 0, none⟩) 0 0) [] pr) :=
    ⟨hrd.alloc _, grown_alloc hgr _, ho.alloc _, own_lit_at rfl hsz, fun k hk e => by simp [Value.ownBlock] at hk e; omega, hg⟩
  clear hrd hgr ho
  go_wp2_with fail
  refine (one_lit g pr _ 8 _ [6, 8, 4, 12, 1, 0, 16, 17] _ (I1.out.rd.alloc _) (by omega) (blk_at (by simp) _) (by omega) (by decide) (by decide)).mono ?_
  rintro e w2 ⟨n, rfl, hm, hR2, hg2⟩
  have I2 := hide (I1.out.by (grown_trans (grown_alloc (World.grownBy.refl _ _) _) hg2) hR2)
  obtain ⟨m, rfl⟩ : ∃ m : Nat, n = (m : Int) := ⟨n.toNat, by simp at hm; omega⟩
  have hm17 : m ≤ 17 := by simp at hm; omega
  clear hm hR2 hg2 I1
  go_wp2_with fail
  go_loopg [5, 6] m (fun gk s5 s6 wr => gk ≤ 17 ∧ s6 = .int .i64 (gk : Nat) ∧ ∃ (ms : List RMove) (gm capm : Nat) (q : Int), s5 = .slice (some ⟨gm, 0, none⟩) ms.length capm ∧ ms.length + gk ≤ 17 ∧ MInv w wr g (.slice (some ⟨gv, 0, none⟩) l.length capv) l (.slice (some ⟨gm, 0, none⟩) ms.length capm) ms q ∧ (0 ≤ q ∧ q + 5 * gk ≤ 900))
  case atStart => exact ⟨hm17, rfl, [], w1.heap.size, 0, pr + 1, rfl, by simp; omega, I2.out, by omega⟩
  case round =>
    clear I2 hR hm17
    obtain ⟨hgk, rfl, ms, gm, capm, q, rfl, hlm, hI, hq0, hq1⟩ := hrel
    have HI := hide hI
    have hcaps := row_caps hI.om
    have hgm := (World.ownsRow.lt hI.om gm rfl).1
    have hgm2 := (World.ownsRow.lt hI.om gm rfl).2
    clear hI
    by_cases h0 : gk = 0
    · subst h0
      cases ms with
      | nil =>
        go_wp2_with fail
        go_ret2
        exact ⟨_, l, _, [], _, rfl, HI.out, hl9, by simp, by omega, by omega⟩
      | cons x t =>
        have hpos : (0 : Int) < ((x :: t).length : Int) := by simp
        have hpos' : decide ((0 : Int) < ((x :: t).length : Int)) = true := decide_eq_true hpos
        have hpos2 : 0 < (x :: t).length := by simp
        have hlm' : (x :: t).length ≤ 17 := by omega
        go_wp2_with fail
        refine (pick_any g q 20 wr HI.out.rd (by omega)).mono ?_
        rintro e w3 ⟨r, rfl, -, hR3, hg3⟩
        have I3 := hide (HI.out.by hg3 hR3)
        clear hR3 hg3 HI
        by_cases hr : r = 0
        · subst hr
          go_wp2_with fail
          refine (one_lit g (q + 1) _ 3 _ [-1, 99, 100] _ (I3.out.rd.alloc _) (by omega) (blk_alloc _ _) (by have := I3.out.size; omega) (by decide) (by decide)).mono ?_
          rintro e w4 ⟨xa, rfl, -, hR4, hg4⟩
          have I4 := hide (I3.out.by (grown_trans (grown_alloc (World.grownBy.refl _ _) _) hg4) hR4)
          clear hR4 hg4 I3
          go_wp2_with fail
          refine (one_lit g (q + 1 + 1) _ 4 _ [-1, 999999, 1000000, 0] _ (I4.out.rd.alloc _) (by omega) (blk_alloc _ _) (by have := I4.out.size; omega) (by decide) (by decide)).mono ?_
          rintro e w5 ⟨xb, rfl, -, hR5, hg5⟩
          have I5 := hide (I4.out.by (grown_trans (grown_alloc (World.grownBy.refl _ _) _) hg5) hR5)
          clear hR5 hg5 I4
          have I6 := hide (MInv.put0 ⟨false, false, xa, xb⟩ I5.out)
          have hom := I5.out.om
          obtain ⟨z0, z1, z2, z3⟩ : w5.cell? ⟨gm, 0, none⟩ = some (.bool x.scan) ∧ w5.cell? ⟨gm, 1, none⟩ = some (.bool x.gone) ∧ w5.cell? ⟨gm, 2, none⟩ = some (.int .i64 x.row) ∧ w5.cell? ⟨gm, 3, none⟩ = some (.int .i64 x.key) :=
            ⟨(World.ownsRow.cellAt hom 0 (by simp <;> omega)).trans rfl, (World.ownsRow.cellAt hom 1 (by simp <;> omega)).trans rfl, (World.ownsRow.cellAt hom 2 (by simp <;> omega)).trans rfl, (World.ownsRow.cellAt hom 3 (by simp <;> omega)).trans rfl⟩
          have g0 := World.ownsRow.frozenAt hom 0
          have g1 := World.ownsRow.frozenAt hom 1
          have g2 := World.ownsRow.frozenAt hom 2
          have g3 := World.ownsRow.frozenAt hom 3
          clear hom
          go_wp2_with fail
          go_ret2
          exact ⟨_, l, _, ⟨false, false, xa, xb⟩ :: t, _, rfl, I6.out, hl9, hlm', by omega, by omega⟩
        · have hr' : (r == 0) = false := by simpa using hr
          go_wp2_with fail
          go_ret2
          exact ⟨_, l, _, x :: t, _, rfl, I3.out, hl9, hlm', by omega, by omega⟩
    · have hgk0 : (0 : Int) < (gk : Int) := by omega
      have hfree := HI.out.free
      have HA := hide (HI.out.alloc (.cells #[.bool true, .bool false, .int .i64 0, .int .i64 0] 42))
      have hws := HI.out.size
      go_wp2_with fail
      refine (pick_any g q 5 _ HA.out.rd (by omega)).mono ?_
      rintro e w3 ⟨r, rfl, -, hR3, hg3⟩
      have I3 := hide (HA.out.by hg3 hR3)
      have X3 := hide (blk_by hg3 (blk_alloc wr (.cells #[.bool true, .bool false, .int .i64 0, .int .i64 0] 42)) (by omega))
      have hs3 := hg3.size
      clear hR3 hg3 HA HI
      have HF := hide hfree
      clear hfree
      by_cases hr : 1 < r
      · have dr : decide (1 < r) = true := decide_eq_true hr
        clear hr
        go_upto_region 8 with fail
        go_cut [] (fun wx => ∃ (ra rb rc : Int), MInv w wx g (.slice (some ⟨gv, 0, none⟩) l.length capv) l (.slice (some ⟨gm, 0, none⟩) ms.length capm) ms (q + 1 + 1 + 1 + 1) ∧ wx.heap[wr.heap.size]? = some (.cells #[.bool false, .bool (ra == 0), .int .i64 rb, .int .i64 rc] 42 (0, 0)))
        case first =>
         go_wp2_with fail
         refine (pick_any g (q + 1) 3 _ I3.out.rd (by omega)).mono ?_
         rintro e w4 ⟨ra, rfl, -, hR4, hg4⟩
         have I4 := hide (I3.out.by hg4 hR4)
         have X4 := hide (blk_by hg4 X3.out (by omega))
         have hs4 := hg4.size
         clear hR4 hg4 I3 X3
         go_wp2_with fail
         refine (pick_any g (q + 1 + 1) 24 _ I4.out.rd (by omega)).mono ?_
         rintro e w5 ⟨rb, rfl, -, hR5, hg5⟩
         have I5 := hide (I4.out.by hg5 hR5)
         have X5 := hide (blk_by hg5 X4.out (by omega))
         have hs5 := hg5.size
         clear hR5 hg5 I4 X4
         go_wp2_with fail
         refine (pick_any g (q + 1 + 1 + 1) 10 _ I5.out.rd (by omega)).mono ?_
         rintro e w6 ⟨rc, rfl, -, hR6, hg6⟩
         have I6 := hide (I5.out.by hg6 hR6)
         have X6 := hide (blk_by hg6 X5.out (by omega))
         have hs6 := hg6.size
         clear hR6 hg6 I5 X5
         have I7 := hide ((((I6.out.set (j := 0) (u := .bool false) hws HF.out).set (j := 1) (u := .bool (ra == 0)) hws HF.out).set (j := 2) (u := .int .i64 rb) hws HF.out).set (j := 3) (u := .int .i64 rc) hws HF.out)

         obtain ⟨⟨x0, x1, x2, x3⟩, y0, y1, y2, y3⟩ := cells4 X6.out
         go_wp2_with fail
         go_meet
         exact ⟨ra, rb, rc, I7.out, set_block (set_block (set_block (set_block X6.out 0 _) 1 _) 2 _) 3 _⟩
        case rest =>
        obtain ⟨ra, rb, rc, hI7, hX7⟩ := hcut
        have I7 := hide hI7
        have X7 := hide hX7
        have hs7 := I7.out.size
        clear hI7 hX7 I3 X3
        obtain ⟨gnb, hgnb⟩ : ∃ b : Bool, (ra == 0) = b := ⟨_, rfl⟩
        rw [hgnb] at X7
        clear hgnb
        obtain ⟨⟨x0, x1, x2, x3⟩, y0, y1, y2, y3⟩ := cells4 X7.out
        go_wp2_with (at_builtin; refine wpList_append_lies _ rfl (.tmp 30) (.tmp 32) 37 rfl w.heap.size 42 i0 _ 4 24 Try.underlying37 hi hz0 hz1 hz2 rfl (by decide) _ _ _ rfl (World.ownsRow.alloc I7.out.om _) ⟨_, 0, none⟩ 1 1 [.bool false, .bool gnb, .int .i64 rb, .int .i64 rc] rfl rfl ?c1 ?h1 (by decide) ?h63 ?hb ?hbase _ rfl ?next)
        case c1 => exact World.news_of_block (cs := #[.bool false, .bool gnb, .int .i64 rb, .int .i64 rc]) (blk_at rfl _)
        case h1 => intro u hu; simp at hu; rcases hu with rfl | rfl | rfl | rfl <;> rfl
        case h63 => unfold maxLen; omega
        case hb => omega
        case hbase => simp; omega
        case next =>
          intro g6 cap6 w8 hown hgrow hat hlt6
          have I8 := hide (MInv.app (⟨false, gnb, rb, rc⟩ : RMove) I7.out hown hgrow (hat.imp id (fun h => by (try simp at h ⊢); omega)))
          have hcap6 := row_caps I8.out.om
          rw [List.length_append] at hcap6
          clear hown hgrow hat
          go_wp2_with fail
          go_roundg (gk - 1)
          case measure => omega
          case rel => exact ⟨by omega, by go_num, ms ++ [(⟨false, gnb, rb, rc⟩ : RMove)], g6, cap6, q + 1 + 1 + 1 + 1, by simp, by simp; omega, I8.out, by omega, by omega⟩
      · have dr : decide (1 < r) = false := decide_eq_false hr
        clear hr
        have hs7 := I3.out.size
        obtain ⟨⟨x0, x1, x2, x3⟩, y0, y1, y2, y3⟩ := cells4 X3.out
        go_wp2_with (at_builtin; refine wpList_append_lies _ rfl (.tmp 30) (.tmp 32) 37 rfl w.heap.size 42 i0 _ 4 24 Try.underlying37 hi hz0 hz1 hz2 rfl (by decide) _ _ _ rfl (World.ownsRow.alloc I3.out.om _) ⟨_, 0, none⟩ 1 1 [.bool true, .bool false, .int .i64 0, .int .i64 0] rfl rfl ?c1 ?h1 (by decide) ?h63 ?hb ?hbase _ rfl ?next)
        case c1 => exact World.news_of_block (cs := #[.bool true, .bool false, .int .i64 0, .int .i64 0]) (blk_at rfl _)
        case h1 => intro u hu; simp at hu; rcases hu with rfl | rfl | rfl | rfl <;> rfl
        case h63 => unfold maxLen; omega
        case hb => omega
        case hbase => simp; omega
        case next =>
          intro g6 cap6 w8 hown hgrow hat hlt6
          have I8 := hide (MInv.app (⟨true, false, 0, 0⟩ : RMove) I3.out hown hgrow (hat.imp id (fun h => by (try simp at h ⊢); omega)))
          have hcap6 := row_caps I8.out.om
          rw [List.length_append] at hcap6
          clear hown hgrow hat
          go_wp2_with fail
          go_roundg (gk - 1)
          case measure => omega
          case rel => exact ⟨by omega, by go_num, ms ++ [(⟨true, false, 0, 0⟩ : RMove)], g6, cap6, q + 1, by simp, by simp; omega, I8.out, by omega, by omega⟩
def DrawPost (w : World) (e : Ending) (w' : World) : Prop := ∃ (vr : Value) (l : List Itm) (v : Value) (ms : List RMove), e = .returned (.tuple #[vr, v]) ∧ OwnI w.heap.size w' vr l ∧ OwnM w.heap.size w' v ms ∧ l.length ≤ 9 ∧ ms.length ≤ 17 ∧ Below w.heap.size w w'
set_option maxHeartbeats 4000000 in
set_option maxRecDepth 100000 in
theorem drawRowsAfter_any (v : Value) (w : World) (h : BytesAt w v) :
    Calls Try.prog 19 #[v] w (DrawPost w) := by
  have HV := hide h
  clear h
  go_enter Try.func19, Try.ntmps19
  go_wp2_with fail
  refine (newReader_any v w HV.out).mono ?_
  rintro e w1 ⟨g, rfl, hg, hr, hb1⟩
  have R1 := hide hr
  have HB1 := hide hb1
  clear hr hb1
  go_wp2_with fail
  refine (anyMoves_any g 0 w1 R1.out (by omega) (by omega)).mono ?_
  rintro e w2 ⟨vr, l, vm, ms, q, rfl, hI, hl9, hm17, -, -⟩
  have HI := hide hI
  have H2 : Hid (Below w.heap.size w w2) := HB1.out.grown hI.grown HB1.out.size (fun q hq => by cases hq; exact hg)
  obtain ⟨a1, c1, rfl, -⟩ := own_slc hI.oi
  obtain ⟨a2, c2, rfl, -⟩ := own_slc hI.om
  clear hI
  go_wp2_with fail
  go_ret2
  exact ⟨_, l, _, ms, rfl, own_mono HI.out.oi HB1.out.size, own_mono HI.out.om HB1.out.size, hl9, hm17, H2.out⟩
set_option maxHeartbeats 4000000 in
set_option maxRecDepth 100000 in
theorem drawSideOf_any (v : Value) (w : World) (h : BytesAt w v) :
    Calls Try.prog 22 #[v] w (DrawPost w) := by
  have HV := hide h
  clear h
  go_enter Try.func22, Try.ntmps22
  go_wp2_with fail
  refine (newReader_any v w HV.out).mono ?_
  rintro e w1 ⟨g, rfl, hg, hr, hb1⟩
  have R1 := hide hr
  have HB1 := hide hb1
  clear hr hb1
  go_wp2_with fail
  refine (anyMoves_any g 0 w1 R1.out (by omega) (by omega)).mono ?_
  rintro e w2 ⟨vr, l, vm, ms, q, rfl, hI, hl9, hm17, -, -⟩
  have HI := hide hI
  have H2 : Hid (Below w.heap.size w w2) := HB1.out.grown hI.grown HB1.out.size (fun q hq => by cases hq; exact hg)
  obtain ⟨a1, c1, rfl, -⟩ := own_slc hI.oi
  obtain ⟨a2, c2, rfl, -⟩ := own_slc hI.om
  clear hI
  go_wp2_with fail
  go_ret2
  exact ⟨_, l, _, ms, rfl, own_mono HI.out.oi HB1.out.size, own_mono HI.out.om HB1.out.size, hl9, hm17, H2.out⟩
set_option maxHeartbeats 4000000 in
set_option maxRecDepth 100000 in
theorem drawBuildOnline_any (v : Value) (w : World) (h : BytesAt w v) :
    Calls Try.prog 29 #[v] w (DrawPost w) := by
  have HV := hide h
  clear h
  go_enter Try.func29, Try.ntmps29
  go_wp2_with fail
  refine (newReader_any v w HV.out).mono ?_
  rintro e w1 ⟨g, rfl, hg, hr, hb1⟩
  have R1 := hide hr
  have HB1 := hide hb1
  clear hr hb1
  go_wp2_with fail
  refine (anyMoves_any g 0 w1 R1.out (by omega) (by omega)).mono ?_
  rintro e w2 ⟨vr, l, vm, ms, q, rfl, hI, hl9, hm17, -, -⟩
  have HI := hide hI
  have H2 : Hid (Below w.heap.size w w2) := HB1.out.grown hI.grown HB1.out.size (fun q hq => by cases hq; exact hg)
  obtain ⟨a1, c1, rfl, -⟩ := own_slc hI.oi
  obtain ⟨a2, c2, rfl, -⟩ := own_slc hI.om
  clear hI
  go_wp2_with fail
  go_ret2
  exact ⟨_, l, _, ms, rfl, own_mono HI.out.oi HB1.out.size, own_mono HI.out.om HB1.out.size, hl9, hm17, H2.out⟩
end Go.Proofs.Ytppbmhlmbepneaa
