/-
  The generator of rows.
-/
import Derived.Test.YtopdheombgajlaaItemOrd
import Derived.Test.YtopdheombgajlaaReader
set_option linter.all false
namespace Go.Proofs.Ytopdheombgajlaa
open Go.RowKit
theorem grown_new {a b c : World} {row : Option Nat} {j : Nat} (h : a.grownBy b row) (k : b.grownBy c (some j)) (hj : a.heap.size ≤ j) : a.grownBy c row :=
  ⟨k.os.trans h.os, k.tape.trans h.tape, k.output.trans h.output, Nat.le_trans h.size k.size, fun i hi hn => (k.block i (Nat.lt_of_lt_of_le hi h.size) (fun e => by injection e with e; omega)).trans (h.block i hi hn)⟩
/-- what the generators keep -/
structure IInv (w wi : World) (g : Nat) (v : Value) (l : List Itm) (p : Int) : Prop where
  rd : Rd wi g p
  grown : w.grownBy wi (some g)
  own : OwnI w.heap.size wi v l
  lo : g < w.heap.size
theorem IInv.size {w wi : World} {g : Nat} {v : Value} {l : List Itm} {p : Int} (h : IInv w wi g v l p) : w.heap.size ≤ wi.heap.size := h.grown.size
theorem IInv.by {w wi wj : World} {g : Nat} {v : Value} {l : List Itm} {p q : Int} (h : IInv w wi g v l p) (hg : wi.grownBy wj (some g)) (hr : Rd wj g q) : IInv w wj g v l q :=
  ⟨hr, grown_trans h.grown hg, World.ownsRow.kept h.own hg (by
    cases hv : v.ownBlock with
    | none => exact .inl rfl
    | some k => exact .inr (fun e => by injection e with e; have := (World.ownsRow.lt h.own k hv).1; have := h.lo; omega)), h.lo⟩
def RowsPost (w : World) (g : Nat) (p : Int) (n : Nat) (e : Ending) (w' : World) : Prop := ∃ gv cap l q, e = .returned (.slice (some ⟨gv, 0, none⟩) l.length cap) ∧ OwnI w.heap.size w' (.slice (some ⟨gv, 0, none⟩) l.length cap) l ∧ l.length ≤ n ∧ Rd w' g q ∧ (0 ≤ q ∧ q ≤ p + 30) ∧ w.grownBy w' (some g)
set_option maxHeartbeats 8000000 in
set_option maxRecDepth 100000 in
theorem randomRows_any (g : Nat) (p : Int) (w : World) (h : Rd w g p) (hp : p < 900000000) (hp0 : 0 ≤ p) :
    Calls Try.prog 21 #[.pointer (some ⟨g, 0, none⟩)] w (RowsPost w g p 8) := by
  have hR := hide h
  have hg : g < w.heap.size := h.lt
  clear h
  obtain ⟨i0, hi, hz0, hz1, hz2⟩ := info_parts infoI
  go_enter Try.func21, Try.ntmps21
  go_wp2_with fail
  refine (pick_any g p 4 _ (hR.out.alloc _) (by omega)).mono ?_
  rintro e w1 ⟨row, rfl, hrow, hR1, hg1⟩
  have G1 : Hid (w.grownBy w1 (some g)) := grown_trans (grown_alloc (grown_below (Below.refl _ _) _) _) hg1
  have I1 : Hid (IInv w w1 g (.slice (some ⟨w.heap.size, 0, none⟩) 0 0) [] (p + 1)) :=
    ⟨hR1, G1.out, World.ownsRow.kept (own_lit_at rfl (Nat.le_refl _)) hg1 (.inr (by simp [Value.ownBlock]; omega)), hg⟩
  have hrow0 : 0 ≤ row := hrow.1
  have hrow3 : row < 4 := hrow.2 (by omega)
  clear hR1 hg1 G1 hrow
  go_wp2_with fail
  refine (one_lit g (p + 1) _ 6 _ [4, 6, 3, 8, 1, 0] _ (I1.out.rd.alloc _) (by omega) (blk_alloc _ _) (by have := I1.out.size; omega) (by decide) (by decide)).mono ?_
  rintro e w2 ⟨n, rfl, hm, hR2, hg2⟩
  have I2 := hide (I1.out.by (grown_trans (grown_alloc (World.grownBy.refl _ _) _) hg2) hR2)
  obtain ⟨m, rfl⟩ : ∃ m : Nat, n = (m : Int) := ⟨n.toNat, by simp at hm; omega⟩
  have hm8 : m ≤ 8 := by simp at hm; omega
  clear hm hR2 hg2 I1
  go_wp2_with fail
  go_loopg [3, 4, 5] m (fun gk s3 s4 s5 wr => gk ≤ 8 ∧ s5 = .int .i64 (gk : Nat) ∧ ∃ (l : List Itm) (g3 cap3 : Nat) (pr r : Int), s3 = .slice (some ⟨g3, 0, none⟩) l.length cap3 ∧ s4 = .int .i64 r ∧ l.length + gk ≤ 8 ∧ IInv w wr g (.slice (some ⟨g3, 0, none⟩) l.length cap3) l pr ∧ (0 ≤ pr ∧ pr + 2 * gk ≤ p + 20) ∧ (0 ≤ r ∧ r + 5 * gk ≤ 100))
  case atStart => exact ⟨hm8, rfl, [], w.heap.size, 0, p + 1 + 1, row, rfl, rfl, by simp; omega, I2.out, by omega, by omega⟩
  case round =>
    clear I2 hR hm8
    obtain ⟨hm, rfl, l, g3, cap3, pr, r, rfl, rfl, hlm, hI, ⟨hpr0, hpr⟩, hr0, hr1⟩ := hrel
    have HI := hide hI
    have hcaps := row_caps hI.own
    have hg3 : w.heap.size ≤ g3 := (World.ownsRow.lt hI.own g3 rfl).1
    clear hI
    by_cases h0 : gk = 0
    · subst h0
      go_wp2_with fail
      go_ret
      exact ⟨g3, cap3, l, _, rfl, HI.out.own, by omega, HI.out.rd, by omega, HI.out.grown⟩
    · have hgk : (0 : Int) < (gk : Int) := by omega
      go_wp2_with fail
      refine (pick_any g pr 10 wr HI.out.rd (by omega)).mono ?_
      rintro e w3 ⟨k, rfl, -, hR3, hg3'⟩
      have I3 := hide (HI.out.by hg3' hR3)
      have hs3 := I3.out.size
      clear hR3 hg3'
      go_wp2_with (at_builtin; refine wpList_append_lies _ rfl (.tmp 16) (.tmp 21) 23 rfl w.heap.size 29 i0 _ 2 16 Try.underlying23 hi hz0 hz1 hz2 rfl (by decide) _ _ _ rfl (World.ownsRow.alloc I3.out.own _) ⟨_, 0, none⟩ 1 1 [.int .i64 k, .int .i64 r] rfl rfl ?c1 ?h1 (by decide) ?h63 ?hb ?hbase _ rfl ?next)
      case c1 => exact World.news_of_block (cs := #[.int .i64 k, .int .i64 r]) (blk_at rfl _)
      case h1 => intro u hu; simp at hu; rcases hu with rfl | rfl <;> rfl
      case h63 => unfold maxLen; omega
      case hb => omega
      case hbase => simp; omega
      case next =>
        intro g6 cap6 w6 hown hgrow hat hlt6
        have HN : Hid (OwnI w.heap.size w6 (.slice (some ⟨g6, 0, none⟩) (l ++ [Itm.mk k r]).length cap6) (l ++ [Itm.mk k r])) := by
          unfold Hid OwnI
          rw [itmCells_app, List.length_append]
          exact hown
        have G6 : Hid (w.grownBy w6 (some g)) := grown_new (grown_alloc I3.out.grown _) (show (w3.alloc _).grownBy w6 (some g3) from hgrow) hg3
        have R6 : Hid (Rd w6 g (pr + 1)) := (I3.out.rd.alloc _).keepBy (show (w3.alloc _).grownBy w6 (some g3) from hgrow) (by omega)
        have I6 : Hid (IInv w w6 g (.slice (some ⟨g6, 0, none⟩) (l ++ [Itm.mk k r]).length cap6) (l ++ [Itm.mk k r]) (pr + 1)) := ⟨R6.out, G6.out, HN.out, hg⟩
        have hcap6 := row_caps HN.out
        rw [List.length_append] at hcap6
        clear hown hgrow hat
        go_wp2_with fail
        refine (pick_any g (pr + 1) 4 w6 I6.out.rd (by omega)).mono ?_
        rintro e w7 ⟨q, rfl, hq, hR7, hg7⟩
        have hq0 : 0 ≤ q := hq.1
        have hq3 : q < 4 := hq.2 (by omega)
        have I7 := hide (I6.out.by hg7 hR7)
        clear hq hR7 hg7
        go_wp2_with fail
        go_roundg (gk - 1)
        case measure => omega
        case rel => exact ⟨by omega, by go_num, l ++ [Itm.mk k r], g6, cap6, pr + 1 + 1, r + 1 + q, by simp, by go_num, by simp; omega, I7.out, by omega, by omega⟩
def RowsPost2 (w : World) (g : Nat) (p : Int) (e : Ending) (w' : World) : Prop := ∃ gv cap l q, e = .returned (.slice (some ⟨gv, 0, none⟩) l.length cap) ∧ OwnI w.heap.size w' (.slice (some ⟨gv, 0, none⟩) l.length cap) l ∧ l.length ≤ 9 ∧ Rd w' g q ∧ (0 ≤ q ∧ q ≤ p + 40) ∧ w.grownBy w' (some g)
set_option maxHeartbeats 4000000 in
set_option maxRecDepth 100000 in
theorem anyRows_any (g : Nat) (p : Int) (w : World) (h : Rd w g p) (hp : p < 900000000) (hp0 : 0 ≤ p) :
    Calls Try.prog 11 #[.pointer (some ⟨g, 0, none⟩)] w (RowsPost2 w g p) := by
  have hR := hide h
  have hg : g < w.heap.size := h.lt
  clear h
  obtain ⟨i0, hi, hz0, hz1, hz2⟩ := info_parts infoI
  go_enter Try.func11, Try.ntmps11
  go_wp2_with fail
  refine (randomRows_any g p w hR.out hp hp0).mono ?_
  rintro e w1 ⟨g3, cap3, l, pr, rfl, ho, hl8, hrd, ⟨hpr0, hpr⟩, hgr⟩
  have hg3 : w.heap.size ≤ g3 := (World.ownsRow.lt ho g3 rfl).1
  have hcaps := row_caps ho
  have I1 : Hid (IInv w w1 g (.slice (some ⟨g3, 0, none⟩) l.length cap3) l pr) := ⟨hrd, hgr, ho, hg⟩
  clear ho hrd hgr
  go_wp2_with fail
  refine (pick_any g pr 16 w1 I1.out.rd (by omega)).mono ?_
  rintro e w2 ⟨q, rfl, -, hR2, hg2⟩
  have I2 := hide (I1.out.by hg2 hR2)
  clear hR2 hg2
  by_cases q0 : q = 0
  · subst q0
    have hs2 := I2.out.size
    go_wp2_with fail
    refine (one_lit g (pr + 1) _ 3 _ [-1, 5, 1000000] _ (I2.out.rd.alloc _) (by omega) (blk_alloc _ _) (by omega) (by decide) (by decide)).mono ?_
    rintro e w3 ⟨xa, rfl, -, hR3, hg3'⟩
    have I3 := hide (I2.out.by (grown_trans (grown_alloc (World.grownBy.refl _ _) _) hg3') hR3)
    have hs3 := I3.out.size
    clear hR3 hg3'
    go_wp2_with fail
    refine (one_lit g (pr + 1 + 1) _ 3 _ [0, 99, 100] _ (I3.out.rd.alloc _) (by omega) (blk_alloc _ _) (by omega) (by decide) (by decide)).mono ?_
    rintro e w4 ⟨xb, rfl, -, hR3, hg3'⟩
    have I4 := hide (I3.out.by (grown_trans (grown_alloc (World.grownBy.refl _ _) _) hg3') hR3)
    have hs4 := I4.out.size
    clear hR3 hg3'
    go_wp2_with (at_builtin; refine wpList_append_lies _ rfl (.tmp 9) (.tmp 17) 23 rfl w.heap.size 29 i0 _ 2 16 Try.underlying23 hi hz0 hz1 hz2 rfl (by decide) _ _ _ rfl (World.ownsRow.alloc I4.out.own _) ⟨_, 0, none⟩ 1 1 [.int .i64 xa, .int .i64 xb] rfl rfl ?c1 ?h1 (by decide) ?h63 ?hb ?hbase _ rfl ?next)
    case c1 => exact World.news_of_block (cs := #[.int .i64 xa, .int .i64 xb]) (blk_at rfl _)
    case h1 => intro u hu; simp at hu; rcases hu with rfl | rfl <;> rfl
    case h63 => unfold maxLen; omega
    case hb => omega
    case hbase => simp; omega
    case next =>
      intro g6 cap6 w6 hown hgrow hat hlt6
      have HN : Hid (OwnI w.heap.size w6 (.slice (some ⟨g6, 0, none⟩) (l ++ [Itm.mk xa xb]).length cap6) (l ++ [Itm.mk xa xb])) := by
        unfold Hid OwnI
        rw [itmCells_app, List.length_append]
        exact hown
      have G6 : Hid (w.grownBy w6 (some g)) := grown_new (grown_alloc I4.out.grown _) (show (w4.alloc _).grownBy w6 (some g3) from hgrow) hg3
      have R6 : Hid (Rd w6 g (pr + 1 + 1 + 1)) := (I4.out.rd.alloc _).keepBy (show (w4.alloc _).grownBy w6 (some g3) from hgrow) (by omega)
      clear hown hgrow hat
      go_wp2_with fail
      go_ret
      exact ⟨g6, cap6, l ++ [Itm.mk xa xb], _, by simp, HN.out, by simp; omega, R6.out, by omega, G6.out⟩
  · go_wp2_with fail
    go_ret
    exact ⟨g3, cap3, l, _, rfl, I2.out.own, by omega, I2.out.rd, by omega, I2.out.grown⟩
end Go.Proofs.Ytopdheombgajlaa
