/-
  randomNotes of the generators.
-/
import Derived.Test.YtnicjpfkiblimaaCk4
import Derived.Deep.RegionHeld3
import Derived.Deep.DeepCutAuto
set_option linter.all false
namespace Go.Proofs.Ytnicjpfkiblimaa
open Go.RowKit
theorem one_note {w : World} {g : Nat} {e : RNote} {ty : TypeId} {f : Nat × Nat} (h : w.heap[g]? = some (.cells #[.bool e.fin, .int .i64 e.owner, .int .i64 e.thing, .int .i64 e.old, .int .i64 e.new] ty f)) : Notes w (.slice (some ⟨g, 0, none⟩) 1 1) [e] :=
  ⟨_, 1, rfl, Nat.le_refl 1, by omega, .inr ⟨g, 0, rfl, lt_block h, fun i hi => by
    have : i = 0 := by simp at hi; exact hi
    subst this
    exact ⟨by rw [cell_block h]; rfl, by rw [cell_block h]; rfl, by rw [cell_block h]; rfl, by rw [cell_block h]; rfl, by rw [cell_block h]; rfl⟩⟩⟩
theorem own_by {B size n g : Nat} {e : TypeId} {w w' : World} {v : Value} {xs : List Value} (h : w.ownsRow B e size v n xs) (hg : w.grownBy w' (some g)) (hne : v.ownBlock ≠ some g) : w'.ownsRow B e size v n xs :=
  World.ownsRow.kept h hg (.inr hne)
/-- the store, the numbers now and the journal of randomNotes -/
structure RNI (w wr : World) (g : Nat) (sv : Value) (s : List Int) (nv : Value) (now : List Int) (lv : Value) (l : List RNote) (q : Int) : Prop where
  rd : Rd wr g q
  gr : w.grownBy wr (some g)
  so : OwnN w.heap.size wr sv s
  no : OwnN w.heap.size wr nv now
  lo : OwnNt w.heap.size wr lv l
  ap : ∀ k, sv.ownBlock = some k → nv.ownBlock ≠ some k
  hg : g < w.heap.size
section
variable {w wr wj : World} {g : Nat} {sv nv lv lv' : Value} {s now : List Int} {l l' : List RNote} {q q' : Int}
theorem RNI.by (h : RNI w wr g sv s nv now lv l q) (hg : wr.grownBy wj (some g)) (hr : Rd wj g q') : RNI w wj g sv s nv now lv l q' :=
  ⟨hr, grown_trans h.gr hg, own_off h.so hg h.hg, own_off h.no hg h.hg, own_off h.lo hg h.hg, h.ap, h.hg⟩
theorem RNI.keep (h : RNI w wr g sv s nv now lv l q) (hb : Below wr.heap.size wr wj) : RNI w wj g sv s nv now lv l q :=
  ⟨h.rd.keep hb h.rd.lt, grown_trans h.gr (grown_below hb _), h.so.keep hb, h.no.keep hb, h.lo.keep hb, h.ap, h.hg⟩
/-- a store into a block apart -/
theorem RNI.setX (h : RNI w wr g sv s nv now lv l q) {X : Nat} (hX : w.heap.size ≤ X) (h1 : sv.ownBlock ≠ some X) (h2 : nv.ownBlock ≠ some X) (h3 : lv.ownBlock ≠ some X) (o : Nat) (u : Value) : RNI w (wr.setCell ⟨X, o, none⟩ u) g sv s nv now lv l q := by
  have hb : Below w.heap.size wr (wr.setCell ⟨X, o, none⟩ u) := (Below.refl _ _).setCell hX _
  exact ⟨h.rd.keep hb h.hg, grown_own (B := 0) h.gr (grown_setCell wr X o u) (fun k e => by injection e with e; omega), own_by h.so (grown_setCell _ _ _ _) h1, own_by h.no (grown_setCell _ _ _ _) h2, own_by h.lo (grown_setCell _ _ _ _) h3, h.ap, h.hg⟩
theorem RNI.list (h : RNI w wr g sv s nv now lv l q) (hl : OwnNt w.heap.size wr lv' l') : RNI w wr g sv s nv now lv' l' q := ⟨h.rd, h.gr, h.so, h.no, hl, h.ap, h.hg⟩
end
/-- numbers and notes lie in blocks of their own -/
theorem own_types {w : World} {B : Nat} {v u : Value} {ns : List Int} {l : List RNote} (h : OwnN B w v ns) (k : OwnNt B w u l) {b : Nat} (hb : v.ownBlock = some b) : u.ownBlock ≠ some b := by
  intro e
  rcases h.2 with ⟨rfl, -⟩ | ⟨g1, c1, cur1, rfl, -, hg1, -⟩
  · simp [Value.ownBlock] at hb
  · rcases k.2 with ⟨rfl, -⟩ | ⟨g2, c2, cur2, rfl, -, hg2, -⟩
    · simp [Value.ownBlock] at e
    · have hb : g1 = b := by injection hb
      have e : g2 = b := by injection e
      subst hb; subst e
      rw [hg1] at hg2
      injection hg2 with hg2
      injection hg2 with _ hg2 _
      exact absurd hg2 (by decide)
theorem RNI.setNow {w wr : World} {g gn n c : Nat} {sv lv : Value} {s now : List Int} {l : List RNote} {q : Int} (h : RNI w wr g sv s (.slice (some ⟨gn, 0, none⟩) n c) now lv l q) (j : Nat) (x : Int) : RNI w (wr.setCell ⟨gn, j, none⟩ (.int .i64 x)) g sv s (.slice (some ⟨gn, 0, none⟩) n c) (now.set j x) lv l q := by
  have hlt := (World.ownsRow.lt h.no gn rfl).1
  have hb : Below w.heap.size wr (wr.setCell ⟨gn, j, none⟩ (.int .i64 x)) := (Below.refl _ _).setCell hlt _
  exact ⟨h.rd.keep hb h.hg, grown_own (B := 0) h.gr (grown_setCell wr gn j _) (fun k e => by injection e with e; omega), own_by h.so (grown_setCell _ _ _ _) (fun e => h.ap gn e rfl), h.no.stored j x, own_by h.lo (grown_setCell _ _ _ _) (own_types h.no h.lo rfl), h.ap, h.hg⟩
/-- what randomNotes hands back -/
def RNPost (w : World) (g : Nat) (p : Int) (e : Ending) (w' : World) : Prop := ∃ sv s lv l q, e = .returned (.tuple #[sv, lv]) ∧ OwnN w.heap.size w' sv s ∧ OwnNt w.heap.size w' lv l ∧ (1 ≤ s.length ∧ s.length ≤ 6) ∧ l.length ≤ 20 ∧ Rd w' g q ∧ (p ≤ q ∧ q ≤ p + 120) ∧ w.grownBy w' (some g)
theorem own_form {B : Nat} {e : TypeId} {size n : Nat} {w : World} {v : Value} {xs : List Value} (h : w.ownsRow B e size v n xs) : ∃ a m c, v = .slice a m c := by
  obtain ⟨a, c, e, -⟩ := own_shape h
  exact ⟨a, _, c, e⟩
set_option maxHeartbeats 32000000 in
set_option maxRecDepth 100000 in
theorem randomNotes_any (g : Nat) (p : Int) (w : World) (h : Rd w g p) (hp : p < 900000000) :
    Calls Try.prog 31 #[.pointer (some ⟨g, 0, none⟩)] w (RNPost w g p) := by
  have hR := hide h
  have hg := h.lt
  clear h
  go_enter Try.func31, Try.ntmps31
  go_wp2_with fail
  refine (randomStore_any g p w hR.out hp).mono ?_
  rintro e w1 ⟨sv, s, q, rfl, hd, ⟨hs1, hs6⟩, hq0, hq1⟩
  have HD := hide hd
  have hw1 := hd.gr.size
  obtain ⟨gs, cs, rfl⟩ : ∃ g c, sv = .slice (some ⟨g, 0, none⟩) s.length c := by
    rcases hd.ow.2 with ⟨rfl, h0⟩ | ⟨g, c, cur, rfl, -⟩
    · omega
    · exact ⟨g, c, rfl⟩
  have hgs := World.ownsRow.lt hd.ow gs rfl
  clear hd hR
  have HD2 := hide (HD.out.keep (below_box w1 (.cells #[] 41)))
  have HL2 : Hid (OwnNt w.heap.size (w1.alloc (.cells #[] 41)) (.slice (some ⟨w1.heap.size, 0, none⟩) 0 0) []) := lit_T rfl hw1
  go_wp2_with fail
  refine (copyN_any _ s _ HD2.out.ow.nums (nilOk_own HD2.out.ow) (by omega)).mono ?_
  rintro e w3 ⟨nv, rfl, ho, hb⟩
  obtain ⟨gn, cn, rfl⟩ : ∃ g c, nv = .slice (some ⟨g, 0, none⟩) s.length c := by
    rcases ho.2 with ⟨rfl, h0⟩ | ⟨g, c, cur, rfl, -⟩
    · omega
    · exact ⟨g, c, rfl⟩
  have hgn := (World.ownsRow.lt ho gn rfl).1
  have hgn : w1.heap.size + 1 ≤ gn := by simpa using hgn
  have HI3 : Hid (RNI w w3 g (.slice (some ⟨gs, 0, none⟩) s.length cs) s (.slice (some ⟨gn, 0, none⟩) s.length cn) s (.slice (some ⟨w1.heap.size, 0, none⟩) 0 0) [] q) :=
    ⟨(HD2.out.keep hb).rd, (HD2.out.keep hb).gr, (HD2.out.keep hb).ow, own_mono ho (by simp; omega), HL2.out.keep hb, fun k e1 e2 => by injection e1 with e1; injection e2 with e2; simp only at e1 e2; omega, hg⟩
  clear ho hb HD HD2 HL2 hgn
  go_wp2_with fail
  refine (one_lit g q _ 7 _ [6, 8, 5, 3, 10, 0, 20] _ (HI3.out.rd.alloc _) (by omega) (blk_alloc _ _) (by have := HI3.out.rd.lt; omega) (by decide) (by decide)).mono ?_
  rintro e w4 ⟨n, rfl, hm, hr4, hgr⟩
  have HI4 := hide ((HI3.out.keep (below_box _ _)).by hgr hr4)
  obtain ⟨m, rfl⟩ : ∃ m : Nat, n = (m : Int) := ⟨n.toNat, by simp at hm; omega⟩
  have hm20 : m ≤ 20 := by simp at hm; omega
  clear hm hr4 hgr HI3
  go_wp2_with fail
  go_loopg [5, 7] m (fun gk s5 s7 wr => s7 = .int .i64 (gk : Nat) ∧ gk ≤ 20 ∧ ∃ now l q, now.length = s.length ∧ RNI w wr g (.slice (some ⟨gs, 0, none⟩) s.length cs) s (.slice (some ⟨gn, 0, none⟩) s.length cn) now s5 l q ∧ l.length + gk ≤ 20 ∧ p ≤ q ∧ q + 4 * (gk : Nat) ≤ p + 11 + 80)
  case atStart => exact ⟨rfl, hm20, s, [], _, rfl, HI4.out, by simpa using hm20, by omega, by omega⟩
  case round =>
    clear HI4 hm20
    obtain ⟨rfl, hgk, now, l, q, hnl, hI, hl20, hq0, hq1⟩ := hrel
    have HI := hide hI
    have HNLe := hide hnl
    obtain ⟨la, ln, lc, rfl⟩ := own_form hI.lo
    clear hI hnl
    by_cases h0 : gk = 0
    · subst h0
      go_wp2_with fail
      go_ret2
      exact ⟨_, s, _, l, q, rfl, HI.out.so, HI.out.lo, ⟨hs1, hs6⟩, by omega, HI.out.rd, by omega, HI.out.gr⟩
    · have hgk0 : (0 : Int) < (gk : Int) := by omega
      go_wp2_with fail
      refine (pick_any g q 4 _ HI.out.rd (by omega)).mono ?_
      rintro e w5 ⟨who, rfl, -, hr5, hgr⟩
      have HI5 := hide (HI.out.by hgr hr5)
      have HIA := hide (HI5.out.keep (below_box w5 (.cells #[.bool true, .int .i64 who, .int .i64 0, .int .i64 0, .int .i64 0] 41)))
      have HXA := hide (blk_alloc w5 (.cells #[.bool true, .int .i64 who, .int .i64 0, .int .i64 0, .int .i64 0] 41))
      have hw5 := HI5.out.gr.size
      have n1 := fun k hk => (World.ownsRow.lt HI5.out.so k hk).2
      have n2 := fun k hk => (World.ownsRow.lt HI5.out.no k hk).2
      have n3 := fun k hk => (World.ownsRow.lt HI5.out.lo k hk).2
      have HN1 : Hid ((Value.slice (some ⟨gs, 0, none⟩) s.length cs).ownBlock ≠ some w5.heap.size) := fun e => by have := n1 _ e; omega
      have HN2 : Hid ((Value.slice (some ⟨gn, 0, none⟩) s.length cn).ownBlock ≠ some w5.heap.size) := fun e => by have := n2 _ e; omega
      have HN3 : Hid ((Value.slice la ln lc).ownBlock ≠ some w5.heap.size) := fun e => by have := n3 _ e; omega
      clear hr5 hgr HI n1 n2 n3
      go_wp2_with fail
      refine (pick_any g (q + 1) 4 _ HIA.out.rd (by omega)).mono ?_
      rintro e w6 ⟨c, rfl, -, hr6, hgr⟩
      have HI6 := hide (HIA.out.by hgr hr6)
      obtain ⟨X, hX⟩ : ∃ X, X = w5.heap.size := ⟨_, rfl⟩
      rw [← hX] at HN1 HN2 HN3 HXA hw5 ⊢
      have hgX : g ≠ X := by omega
      have HX6 := hide ((hgr.block X (lt_block HXA.out) (fun e => by injection e with e; omega)).trans HXA.out)
      clear hr6 hgr hX HXA HIA HI5
      by_cases hc : 0 < c
      · have dc : decide (0 < c) = true := decide_eq_true hc
        clear hc
        go_wp2_with fail
        refine (pick_any g (q + 1 + 1) (s.length : Int) _ HI6.out.rd (by omega)).mono ?_
        rintro e w7 ⟨t, rfl, ht, hr7, hgr⟩
        have HI7 := hide (HI6.out.by hgr hr7)
        have HX7 := hide ((hgr.block X (lt_block HX6.out) (fun e => by injection e with e; omega)).trans HX6.out)
        obtain ⟨j, rfl⟩ : ∃ j' : Nat, t = (j' : Int) := ⟨t.toNat, by have := ht.1; omega⟩
        have hjs : (j : Int) < (s.length : Int) := by have := ht.2 (by omega); omega
        have hj0 : (0 : Int) ≤ (j : Int) := by omega
        have hjn : j < now.length := by have := HNLe.out; omega
        have lX7 := lt_block HX7.out
        clear ht hr7 hgr HI6 HX6
        have HNC := hide (HI7.out.no.at hjn)
        have hgn7 := (World.ownsRow.lt HI7.out.no gn rfl).2
        have hgnw := (World.ownsRow.lt HI7.out.no gn rfl).1
        obtain ⟨od, hod⟩ : ∃ od, now[j] = od := ⟨_, rfl⟩
        rw [hod] at HNC
        clear hod
        have HSN : Hid (∀ z, w7.drew.grownBy z (some g) → z.cell? ⟨gn, j, none⟩ = some (.int .i64 od)) := fun z hz => (World.cell?_of_block (a := ⟨gn, j, none⟩) (hz.block gn hgn7 (fun e => by injection e with e; omega))).trans HNC.out
        have HSD : Hid (w7.drew.cell? ⟨gn, j, none⟩ = some (.int .i64 od)) := HNC.out
        have HID : Hid (RNI w w7.drew g (.slice (some ⟨gs, 0, none⟩) s.length cs) s (.slice (some ⟨gn, 0, none⟩) s.length cn) now (.slice la ln lc) l (q + 1 + 1 + 1)) := HI7.out.keep ((Below.refl _ _).drew)
        have hXgn : gn ≠ X := fun e => HN2.out (by rw [← e]; rfl)
        have kX : ∀ (W : World) (o : Nat) (u : Value), (W.setCell ⟨X, o, none⟩ u).cell? ⟨gn, j, none⟩ = W.cell? ⟨gn, j, none⟩ := fun W o u => World.cell?_setCell_other W _ _ u (fun e => by injection e with e1 _ _; exact hXgn e1.symm)
        have n0 := HNC.out
        go_wp2_with fail
        go_cut [] (fun wx => ∃ nw : Int, RNI w wx g (.slice (some ⟨gs, 0, none⟩) s.length cs) s (.slice (some ⟨gn, 0, none⟩) s.length cn) now (.slice la ln lc) l (q + 1 + 1 + 1 + 1) ∧ wx.heap[X]? = some (.cells #[.bool false, .int .i64 who, .int .i64 (j : Int), .int .i64 od, .int .i64 nw] 41))
        case first =>
          go_region_held3 (fun z => z.cell? ⟨gn, j, none⟩ = some (.int .i64 od)) (first | with_reducible exact HNC.out | with_reducible exact HSD.out | with_reducible exact HSN.out _ HG8.out | (simp only [kX]; with_reducible exact HSN.out _ HG8.out) | go_keep) (first
            | (go_at_call 22; (with_reducible refine (pick_any g (q + 1 + 1 + 1) 90 _ HID.out.rd (by omega)).mono ?_); rintro e w8 ⟨nw, rfl, -, hr8, hgr⟩; have HG8 := hide hgr; have HI8 := hide (HID.out.by hgr hr8); have HX8 : Hid (w8.heap[X]? = some (.cells #[.bool true, .int .i64 who, .int .i64 0, .int .i64 0, .int .i64 0] 41)) := ((hgr.block X lX7 (fun e => by injection e with e; omega)).trans HX7.out); have lX8 := lt_block HX8.out; have x0 := cell_block HX8.out 0; have x1 := cell_block HX8.out 1; have x2 := cell_block HX8.out 2; have x3 := cell_block HX8.out 3; have x4 := cell_block HX8.out 4; have y0 := froz_block HX8.out 0; have y1 := froz_block HX8.out 1; have y2 := froz_block HX8.out 2; have y3 := froz_block HX8.out 3; have y4 := froz_block HX8.out 4; clear hr8 hgr)
            | fail)
          all_goals
            have HIF := hide (((((HI8.out.setX hw5 HN1.out HN2.out HN3.out 0 (.bool false)).setX hw5 HN1.out HN2.out HN3.out 1 (.int .i64 who)).setX hw5 HN1.out HN2.out HN3.out 2 (.int .i64 (j : Int))).setX hw5 HN1.out HN2.out HN3.out 3 (.int .i64 od)).setX hw5 HN1.out HN2.out HN3.out 4 (.int .i64 nw))
            have HXF := hide (set_block (set_block (set_block (set_block (set_block HX8.out 0 (.bool false)) 1 (.int .i64 who)) 2 (.int .i64 (j : Int))) 3 (.int .i64 od)) 4 (.int .i64 nw))
            clear kX n0
            go_wp2_with fail
            go_meet
            exact ⟨nw, HIF.out, HXF.out⟩
        case rest =>
          obtain ⟨nw, hI, hX⟩ := hcut
          obtain ⟨W, hW⟩ : ∃ W, W = wc := ⟨_, rfl⟩
          rw [← hW] at hI hX ⊢
          have HI := hide hI
          have HX := hide hX
          clear hW hI hX HI7 HX7 HNC HSN HSD HID kX n0
          have lX := lt_block HX.out
          have x0 := cell_block HX.out 0
          have x1 := cell_block HX.out 1
          have x2 := cell_block HX.out 2
          have x3 := cell_block HX.out 3
          have x4 := cell_block HX.out 4
          have hwW := HI.out.gr.size
          have LN := hide HI.out.lo.rows
          have NLN := hide (nilOk_own HI.out.lo)
          have HS : Hid (∀ z, Below W.heap.size W z → (z.cell? ⟨X, 0, none⟩ = some (.bool false) ∧ z.cell? ⟨X, 1, none⟩ = some (.int .i64 who) ∧ z.cell? ⟨X, 2, none⟩ = some (.int .i64 (j : Int)) ∧ z.cell? ⟨X, 3, none⟩ = some (.int .i64 od) ∧ z.cell? ⟨X, 4, none⟩ = some (.int .i64 nw))) := fun z hz => ⟨(hz.cell (p := ⟨X, 0, none⟩) lX).trans x0, (hz.cell (p := ⟨X, 1, none⟩) lX).trans x1, (hz.cell (p := ⟨X, 2, none⟩) lX).trans x2, (hz.cell (p := ⟨X, 3, none⟩) lX).trans x3, (hz.cell (p := ⟨X, 4, none⟩) lX).trans x4⟩
          have HDW : Hid (Below W.heap.size W W.drew) := (Below.refl _ _).drew
          have HK1 : Hid (Below W.heap.size W (W.alloc (.cells #[] 41)).drew) := (below_box W _).drew
          have HK2 : Hid (Below W.heap.size W ((W.alloc (.cells #[] 41)).alloc (.cells #[.bool false, .int .i64 who, .int .i64 (j : Int), .int .i64 od, .int .i64 nw] 41)).drew) := (below_box2 W _ _).drew
          have HK3 : Hid (Below W.heap.size W ((W.alloc (.cells #[.bool false, .int .i64 who, .int .i64 (j : Int), .int .i64 od, .int .i64 nw] 41)).alloc (.cells #[] 41)).drew) := (below_box2 W _ _).drew
          have HK4 : Hid (Below W.heap.size W (W.alloc (.cells #[.bool false, .int .i64 who, .int .i64 (j : Int), .int .i64 od, .int .i64 nw] 41)).drew) := (below_box W _).drew
          have P1 : Hid (OwnNt W.heap.size (W.alloc (.cells #[] 41)).drew (.slice (some ⟨W.heap.size, 0, none⟩) 0 0) []) := lit_T (W := W) (b := W.heap.size) rfl (Nat.le_refl _)
          have P2 : Hid (OwnNt W.heap.size ((W.alloc (.cells #[] 41)).alloc (.cells #[.bool false, .int .i64 who, .int .i64 (j : Int), .int .i64 od, .int .i64 nw] 41)).drew (.slice (some ⟨W.heap.size, 0, none⟩) 0 0) []) := OwnNt.alloc (lit_T (W := W) (b := W.heap.size) rfl (Nat.le_refl _)) (.cells #[.bool false, .int .i64 who, .int .i64 (j : Int), .int .i64 od, .int .i64 nw] 41)
          have P3 : Hid (OwnNt W.heap.size ((W.alloc (.cells #[.bool false, .int .i64 who, .int .i64 (j : Int), .int .i64 od, .int .i64 nw] 41)).alloc (.cells #[] 41)).drew (.slice (some ⟨W.heap.size + 1, 0, none⟩) 0 0) []) := lit_T (W := W.alloc (.cells #[.bool false, .int .i64 who, .int .i64 (j : Int), .int .i64 od, .int .i64 nw] 41)) (b := W.heap.size + 1) (by simp) (by simp)
          have N1 := hide (LN.out.keep HK1.out)
          have N2 := hide (LN.out.keep HK2.out)
          have N3 := hide (LN.out.keep HK3.out)
          have X2 : Hid (((W.alloc (.cells #[] 41)).alloc (.cells #[.bool false, .int .i64 who, .int .i64 (j : Int), .int .i64 od, .int .i64 nw] 41)).drew.heap[W.heap.size + 1]? = some (.cells #[.bool false, .int .i64 who, .int .i64 (j : Int), .int .i64 od, .int .i64 nw] 41)) := blk_at (W := W.alloc (.cells #[] 41)) (by simp) (.cells #[.bool false, .int .i64 who, .int .i64 (j : Int), .int .i64 od, .int .i64 nw] 41)
          have X3 : Hid (((W.alloc (.cells #[.bool false, .int .i64 who, .int .i64 (j : Int), .int .i64 od, .int .i64 nw] 41)).alloc (.cells #[] 41)).drew.heap[W.heap.size]? = some (.cells #[.bool false, .int .i64 who, .int .i64 (j : Int), .int .i64 od, .int .i64 nw] 41)) := blk_keep (blk_alloc W (.cells #[.bool false, .int .i64 who, .int .i64 (j : Int), .int .i64 od, .int .i64 nw] 41)) (.cells #[] 41)
          go_wp2_with fail
          go_cut [11] (fun s11 wx => ∃ na nn nc, s11 = .slice na nn nc ∧ OwnNt w.heap.size wx (.slice na nn nc) (l ++ [(⟨false, who, (j : Int), od, nw⟩ : RNote)]) ∧ Below W.heap.size W wx)
          case first =>
            go_region_held3 (fun z => (z.cell? ⟨X, 0, none⟩ = some (.bool false) ∧ z.cell? ⟨X, 1, none⟩ = some (.int .i64 who) ∧ z.cell? ⟨X, 2, none⟩ = some (.int .i64 (j : Int)) ∧ z.cell? ⟨X, 3, none⟩ = some (.int .i64 od) ∧ z.cell? ⟨X, 4, none⟩ = some (.int .i64 nw))) (first | with_reducible exact HS.out _ (Below.refl _ _) | with_reducible exact HS.out _ HDW.out | with_reducible exact HS.out _ HK1.out | with_reducible exact HS.out _ HK2.out | with_reducible exact HS.out _ HK3.out | with_reducible exact HS.out _ HK4.out | with_reducible exact HS.out _ HA1.out | with_reducible exact HS.out _ (HA1.out.alloc HA1.out.size _) | with_reducible exact HS.out _ HA2.out) (first
              | ((refine step_appT _ (by rfl) (.tmp 44) (.tmp 45) (by rfl) W.heap.size _ [] (by rfl) P1.out (by simp) _ l (by rfl) N1.out NLN.out (by omega) HK1.out.size ?_); intro va a1 hoa hga; have HA1 : Hid (Below W.heap.size W a1) := HK1.out.grown hga HK1.out.size (fun k hk => (World.ownsRow.lt P1.out k hk).1); have OA := hide hoa; obtain ⟨aa, na, ca, rfl⟩ := own_form hoa; clear hoa hga)
              | ((refine step_appT _ (by rfl) (.tmp 44) (.tmp 45) (by rfl) W.heap.size _ [] (by rfl) P2.out (by simp) _ l (by rfl) N2.out NLN.out (by omega) HK2.out.size ?_); intro va a1 hoa hga; have HA1 : Hid (Below W.heap.size W a1) := HK2.out.grown hga HK2.out.size (fun k hk => (World.ownsRow.lt P2.out k hk).1); have NX := hide (one_note (e := (⟨false, who, (j : Int), od, nw⟩ : RNote)) ((hga.block (W.heap.size + 1) (lt_block X2.out) (fun e => by have e : W.heap.size + 1 = W.heap.size := (by simpa [Value.ownBlock] using e); omega)).trans X2.out)); have OA := hide hoa; obtain ⟨aa, na, ca, rfl⟩ := own_form hoa; clear hoa hga)
              | ((refine step_appT _ (by rfl) (.tmp 44) (.tmp 45) (by rfl) W.heap.size _ [] (by rfl) P3.out (by simp) _ l (by rfl) N3.out NLN.out (by omega) HK3.out.size ?_); intro va a1 hoa hga; have HA1 : Hid (Below W.heap.size W a1) := HK3.out.grown hga HK3.out.size (fun k hk => (World.ownsRow.lt P3.out k hk).1); have NX := hide (one_note (e := (⟨false, who, (j : Int), od, nw⟩ : RNote)) ((hga.block W.heap.size (lt_block X3.out) (fun e => by have e : W.heap.size = W.heap.size + 1 := (by simpa [Value.ownBlock] using e); omega)).trans X3.out)); have OA := hide hoa; obtain ⟨aa, na, ca, rfl⟩ := own_form hoa; clear hoa hga)
              | ((refine step_appT _ (by rfl) (.tmp 46) (.tmp 48) (by rfl) W.heap.size _ ([] ++ l) (by rfl) OA.out (by simp; omega) _ [(⟨false, who, (j : Int), od, nw⟩ : RNote)] (by rfl) NX.out (fun _ _ e => by cases e) (by simp) HA1.out.size ?_); intro vb a2 hob hgb; have HA2 : Hid (Below W.heap.size W a2) := HA1.out.grown hgb HA1.out.size (fun k hk => (World.ownsRow.lt OA.out k hk).1); have OB := hide hob; obtain ⟨ab, nb, cb, rfl⟩ := own_form hob; clear hob hgb)
              | ((refine step_appT _ (by rfl) (.tmp 46) (.tmp 48) (by rfl) W.heap.size _ ([] ++ l) (by rfl) (OA.out.alloc _) (by simp; omega) _ [(⟨false, who, (j : Int), od, nw⟩ : RNote)] (by rfl) (one_note (e := (⟨false, who, (j : Int), od, nw⟩ : RNote)) (blk_alloc a1 _)) (fun _ _ e => by cases e) (by simp) (HA1.out.alloc HA1.out.size _).size ?_); intro vb a2 hob hgb; have HA2 : Hid (Below W.heap.size W a2) := (HA1.out.alloc HA1.out.size (.cells #[.bool false, .int .i64 who, .int .i64 (j : Int), .int .i64 od, .int .i64 nw] 41)).grown hgb (HA1.out.alloc HA1.out.size (.cells #[.bool false, .int .i64 who, .int .i64 (j : Int), .int .i64 od, .int .i64 nw] 41)).size (fun k hk => (World.ownsRow.lt OA.out k hk).1); have OB := hide hob; obtain ⟨ab, nb, cb, rfl⟩ := own_form hob; clear hob hgb)
              | fail)
            all_goals
              clear HS
              go_wp2_with fail
              go_meet
              exact ⟨_, _, _, rfl, own_mono OB.out hwW, HA2.out⟩
          case rest =>
            obtain ⟨ya, yn, yc, rfl, hoy, hbx⟩ := hcut
            have HIc := hide (HI.out.keep hbx)
            have OY := hide hoy
            have HXc := hide (blk_own hbx HX.out)
            have YR := hide hoy.rows
            clear HS HDW HK1 HK2 HK3 HK4 P1 P2 P3 N1 N2 N3 X2 X3 LN NLN x0 x1 x2 x3 x4 HI HX hoy hbx
            go_wp2_with fail
            refine (validNotes_any _ _ s _ _ HIc.out.so.nums (nilOk_own HIc.out.so) YR.out).mono ?_
            rintro e w9 ⟨b, rfl, -, hb⟩
            have HI9 := hide (HIc.out.keep hb)
            have OY9 := hide (OY.out.keep hb)
            have HX9 := hide (blk_own hb HXc.out)
            clear hb HIc OY HXc YR
            cases b with
            | false =>
              go_wp2_with fail
              go_roundg (gk - 1)
              case measure => omega
              case rel => exact ⟨by go_num, by omega, now, l, _, HNLe.out, HI9.out, by omega, by omega, by omega⟩
            | true =>
              have hx0 := cell_block HX9.out 0
              have hx2 := cell_block HX9.out 2
              have hx4 := cell_block HX9.out 4
              have n0 := HI9.out.no.at hjn
              have nf := HI9.out.no.froz j
              have hjs : (j : Int) < (s.length : Int) := by omega
              have HIS := hide ((HI9.out.list OY9.out).setNow j nw)
              have hnl' : (now.set j nw).length = s.length := by simp [HNLe.out]
              go_wp2_with fail
              go_roundg (gk - 1)
              case measure => omega
              case rel => exact ⟨by go_num, by omega, _, _, _, hnl', HIS.out, by simp; omega, by omega, by omega⟩
      · have dc : decide (0 < c) = false := decide_eq_false hc
        clear hc
        obtain ⟨W, hW⟩ : ∃ W, W = w6 := ⟨_, rfl⟩
        rw [← hW] at HI6 HX6 ⊢
        have HI := hide HI6.out
        have HX := hide HX6.out
        clear hW HI6 HX6
        have lX := lt_block HX.out
        have x0 := cell_block HX.out 0
        have x1 := cell_block HX.out 1
        have x2 := cell_block HX.out 2
        have x3 := cell_block HX.out 3
        have x4 := cell_block HX.out 4
        have hwW := HI.out.gr.size
        have LN := hide HI.out.lo.rows
        have NLN := hide (nilOk_own HI.out.lo)
        have HS : Hid (∀ z, Below W.heap.size W z → (z.cell? ⟨X, 0, none⟩ = some (.bool true) ∧ z.cell? ⟨X, 1, none⟩ = some (.int .i64 who) ∧ z.cell? ⟨X, 2, none⟩ = some (.int .i64 0) ∧ z.cell? ⟨X, 3, none⟩ = some (.int .i64 0) ∧ z.cell? ⟨X, 4, none⟩ = some (.int .i64 0))) := fun z hz => ⟨(hz.cell (p := ⟨X, 0, none⟩) lX).trans x0, (hz.cell (p := ⟨X, 1, none⟩) lX).trans x1, (hz.cell (p := ⟨X, 2, none⟩) lX).trans x2, (hz.cell (p := ⟨X, 3, none⟩) lX).trans x3, (hz.cell (p := ⟨X, 4, none⟩) lX).trans x4⟩
        have HDW : Hid (Below W.heap.size W W.drew) := (Below.refl _ _).drew
        have HK1 : Hid (Below W.heap.size W (W.alloc (.cells #[] 41)).drew) := (below_box W _).drew
        have HK2 : Hid (Below W.heap.size W ((W.alloc (.cells #[] 41)).alloc (.cells #[.bool true, .int .i64 who, .int .i64 0, .int .i64 0, .int .i64 0] 41)).drew) := (below_box2 W _ _).drew
        have HK3 : Hid (Below W.heap.size W ((W.alloc (.cells #[.bool true, .int .i64 who, .int .i64 0, .int .i64 0, .int .i64 0] 41)).alloc (.cells #[] 41)).drew) := (below_box2 W _ _).drew
        have HK4 : Hid (Below W.heap.size W (W.alloc (.cells #[.bool true, .int .i64 who, .int .i64 0, .int .i64 0, .int .i64 0] 41)).drew) := (below_box W _).drew
        have P1 : Hid (OwnNt W.heap.size (W.alloc (.cells #[] 41)).drew (.slice (some ⟨W.heap.size, 0, none⟩) 0 0) []) := lit_T (W := W) (b := W.heap.size) rfl (Nat.le_refl _)
        have P2 : Hid (OwnNt W.heap.size ((W.alloc (.cells #[] 41)).alloc (.cells #[.bool true, .int .i64 who, .int .i64 0, .int .i64 0, .int .i64 0] 41)).drew (.slice (some ⟨W.heap.size, 0, none⟩) 0 0) []) := OwnNt.alloc (lit_T (W := W) (b := W.heap.size) rfl (Nat.le_refl _)) (.cells #[.bool true, .int .i64 who, .int .i64 0, .int .i64 0, .int .i64 0] 41)
        have P3 : Hid (OwnNt W.heap.size ((W.alloc (.cells #[.bool true, .int .i64 who, .int .i64 0, .int .i64 0, .int .i64 0] 41)).alloc (.cells #[] 41)).drew (.slice (some ⟨W.heap.size + 1, 0, none⟩) 0 0) []) := lit_T (W := W.alloc (.cells #[.bool true, .int .i64 who, .int .i64 0, .int .i64 0, .int .i64 0] 41)) (b := W.heap.size + 1) (by simp) (by simp)
        have N1 := hide (LN.out.keep HK1.out)
        have N2 := hide (LN.out.keep HK2.out)
        have N3 := hide (LN.out.keep HK3.out)
        have X2 : Hid (((W.alloc (.cells #[] 41)).alloc (.cells #[.bool true, .int .i64 who, .int .i64 0, .int .i64 0, .int .i64 0] 41)).drew.heap[W.heap.size + 1]? = some (.cells #[.bool true, .int .i64 who, .int .i64 0, .int .i64 0, .int .i64 0] 41)) := blk_at (W := W.alloc (.cells #[] 41)) (by simp) (.cells #[.bool true, .int .i64 who, .int .i64 0, .int .i64 0, .int .i64 0] 41)
        have X3 : Hid (((W.alloc (.cells #[.bool true, .int .i64 who, .int .i64 0, .int .i64 0, .int .i64 0] 41)).alloc (.cells #[] 41)).drew.heap[W.heap.size]? = some (.cells #[.bool true, .int .i64 who, .int .i64 0, .int .i64 0, .int .i64 0] 41)) := blk_keep (blk_alloc W (.cells #[.bool true, .int .i64 who, .int .i64 0, .int .i64 0, .int .i64 0] 41)) (.cells #[] 41)
        go_wp2_with fail
        go_cut [11] (fun s11 wx => ∃ na nn nc, s11 = .slice na nn nc ∧ OwnNt w.heap.size wx (.slice na nn nc) (l ++ [(⟨true, who, 0, 0, 0⟩ : RNote)]) ∧ Below W.heap.size W wx)
        case first =>
          go_region_held3 (fun z => (z.cell? ⟨X, 0, none⟩ = some (.bool true) ∧ z.cell? ⟨X, 1, none⟩ = some (.int .i64 who) ∧ z.cell? ⟨X, 2, none⟩ = some (.int .i64 0) ∧ z.cell? ⟨X, 3, none⟩ = some (.int .i64 0) ∧ z.cell? ⟨X, 4, none⟩ = some (.int .i64 0))) (first | with_reducible exact HS.out _ (Below.refl _ _) | with_reducible exact HS.out _ HDW.out | with_reducible exact HS.out _ HK1.out | with_reducible exact HS.out _ HK2.out | with_reducible exact HS.out _ HK3.out | with_reducible exact HS.out _ HK4.out | with_reducible exact HS.out _ HA1.out | with_reducible exact HS.out _ (HA1.out.alloc HA1.out.size _) | with_reducible exact HS.out _ HA2.out) (first
            | ((refine step_appT _ (by rfl) (.tmp 44) (.tmp 45) (by rfl) W.heap.size _ [] (by rfl) P1.out (by simp) _ l (by rfl) N1.out NLN.out (by omega) HK1.out.size ?_); intro va a1 hoa hga; have HA1 : Hid (Below W.heap.size W a1) := HK1.out.grown hga HK1.out.size (fun k hk => (World.ownsRow.lt P1.out k hk).1); have OA := hide hoa; obtain ⟨aa, na, ca, rfl⟩ := own_form hoa; clear hoa hga)
            | ((refine step_appT _ (by rfl) (.tmp 44) (.tmp 45) (by rfl) W.heap.size _ [] (by rfl) P2.out (by simp) _ l (by rfl) N2.out NLN.out (by omega) HK2.out.size ?_); intro va a1 hoa hga; have HA1 : Hid (Below W.heap.size W a1) := HK2.out.grown hga HK2.out.size (fun k hk => (World.ownsRow.lt P2.out k hk).1); have NX := hide (one_note (e := (⟨true, who, 0, 0, 0⟩ : RNote)) ((hga.block (W.heap.size + 1) (lt_block X2.out) (fun e => by have e : W.heap.size + 1 = W.heap.size := (by simpa [Value.ownBlock] using e); omega)).trans X2.out)); have OA := hide hoa; obtain ⟨aa, na, ca, rfl⟩ := own_form hoa; clear hoa hga)
            | ((refine step_appT _ (by rfl) (.tmp 44) (.tmp 45) (by rfl) W.heap.size _ [] (by rfl) P3.out (by simp) _ l (by rfl) N3.out NLN.out (by omega) HK3.out.size ?_); intro va a1 hoa hga; have HA1 : Hid (Below W.heap.size W a1) := HK3.out.grown hga HK3.out.size (fun k hk => (World.ownsRow.lt P3.out k hk).1); have NX := hide (one_note (e := (⟨true, who, 0, 0, 0⟩ : RNote)) ((hga.block W.heap.size (lt_block X3.out) (fun e => by have e : W.heap.size = W.heap.size + 1 := (by simpa [Value.ownBlock] using e); omega)).trans X3.out)); have OA := hide hoa; obtain ⟨aa, na, ca, rfl⟩ := own_form hoa; clear hoa hga)
            | ((refine step_appT _ (by rfl) (.tmp 46) (.tmp 48) (by rfl) W.heap.size _ ([] ++ l) (by rfl) OA.out (by simp; omega) _ [(⟨true, who, 0, 0, 0⟩ : RNote)] (by rfl) NX.out (fun _ _ e => by cases e) (by simp) HA1.out.size ?_); intro vb a2 hob hgb; have HA2 : Hid (Below W.heap.size W a2) := HA1.out.grown hgb HA1.out.size (fun k hk => (World.ownsRow.lt OA.out k hk).1); have OB := hide hob; obtain ⟨ab, nb, cb, rfl⟩ := own_form hob; clear hob hgb)
            | ((refine step_appT _ (by rfl) (.tmp 46) (.tmp 48) (by rfl) W.heap.size _ ([] ++ l) (by rfl) (OA.out.alloc _) (by simp; omega) _ [(⟨true, who, 0, 0, 0⟩ : RNote)] (by rfl) (one_note (e := (⟨true, who, 0, 0, 0⟩ : RNote)) (blk_alloc a1 _)) (fun _ _ e => by cases e) (by simp) (HA1.out.alloc HA1.out.size _).size ?_); intro vb a2 hob hgb; have HA2 : Hid (Below W.heap.size W a2) := (HA1.out.alloc HA1.out.size (.cells #[.bool true, .int .i64 who, .int .i64 0, .int .i64 0, .int .i64 0] 41)).grown hgb (HA1.out.alloc HA1.out.size (.cells #[.bool true, .int .i64 who, .int .i64 0, .int .i64 0, .int .i64 0] 41)).size (fun k hk => (World.ownsRow.lt OA.out k hk).1); have OB := hide hob; obtain ⟨ab, nb, cb, rfl⟩ := own_form hob; clear hob hgb)
            | fail)
          all_goals
            clear HS
            go_wp2_with fail
            go_meet
            exact ⟨_, _, _, rfl, own_mono OB.out hwW, HA2.out⟩
        case rest =>
          obtain ⟨ya, yn, yc, rfl, hoy, hbx⟩ := hcut
          have HIc := hide (HI.out.keep hbx)
          have OY := hide hoy
          have HXc := hide (blk_own hbx HX.out)
          have YR := hide hoy.rows
          clear HS HDW HK1 HK2 HK3 HK4 P1 P2 P3 N1 N2 N3 X2 X3 LN NLN x0 x1 x2 x3 x4 HI HX hoy hbx
          go_wp2_with fail
          refine (validNotes_any _ _ s _ _ HIc.out.so.nums (nilOk_own HIc.out.so) YR.out).mono ?_
          rintro e w9 ⟨b, rfl, -, hb⟩
          have HI9 := hide (HIc.out.keep hb)
          have OY9 := hide (OY.out.keep hb)
          have HX9 := hide (blk_own hb HXc.out)
          clear hb HIc OY HXc YR
          cases b with
          | false =>
            go_wp2_with fail
            go_roundg (gk - 1)
            case measure => omega
            case rel => exact ⟨by go_num, by omega, now, l, _, HNLe.out, HI9.out, by omega, by omega, by omega⟩
          | true =>
            have hx0 := cell_block HX9.out 0
            go_wp2_with fail
            go_roundg (gk - 1)
            case measure => omega
            case rel => exact ⟨by go_num, by omega, now, _, _, HNLe.out, HI9.out.list OY9.out, by simp; omega, by omega, by omega⟩
end Go.Proofs.Ytnicjpfkiblimaa
