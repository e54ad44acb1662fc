/-
  anyCatalog: whatever it draws is a short catalog of short texts in memory of its own; of the rest only the reader's block is written.
-/
import Derived.Test.YteikeljklfblmaaCatDraw
import Derived.Deep.RegionHeld3
set_option linter.all false
namespace Go.Proofs.Yteikeljklfblmaa
open Go.RowKit
def catNames : List ByteArray := [⟨#[98, 111, 111, 107, 115]⟩, ⟨#[117, 115, 101, 114, 115]⟩, ⟨#[97]⟩, ⟨#[98, 121]⟩, ⟨#[122]⟩, ⟨#[111, 114, 100, 101, 114, 115]⟩, ⟨#[97, 98, 99, 100, 101, 102, 103, 104]⟩, ⟨#[99]⟩, ⟨#[100]⟩, ⟨#[101]⟩, ⟨#[102]⟩, ⟨#[103]⟩]
def Sz (l : List Ent) : Prop := ∀ e ∈ l, e.n.size ≤ 100 ∧ e.t.size ≤ 100
theorem sz_nil : Sz [] := fun e he => by simp at he
theorem sz_big {l : List Ent} (h : Sz l) : ∀ e ∈ l, e.n.size ≤ 9223372036854775807 ∧ e.t.size ≤ 9223372036854775807 := fun e he => by have := h e he; omega
theorem sz_app {l : List Ent} {e : Ent} (h : Sz l) (he : e.n.size ≤ 100 ∧ e.t.size ≤ 100) : Sz (l ++ [e]) := by
  intro x hx
  rcases List.mem_append.1 hx with hx | hx
  · exact h x hx
  · simp at hx; subst hx; exact he
/-- what the loop keeps -/
structure CInv (w wi : World) (g nb : Nat) (v : Value) (l : List Ent) (p : Int) : Prop where
  rd : Rd wi g p
  grown : w.grownBy wi (some g)
  own : OwnE w.heap.size wi v l
  names : wi.heap[nb]? = some (.cells (catNames.map Value.string).toArray 9 (0, 0))
  lo : g < w.heap.size
  nlo : w.heap.size ≤ nb
theorem CInv.size {w wi : World} {g nb : Nat} {v : Value} {l : List Ent} {p : Int} (h : CInv w wi g nb v l p) : w.heap.size ≤ wi.heap.size := h.grown.size
theorem CInv.by {w wi wj : World} {g nb : Nat} {v : Value} {l : List Ent} {p q : Int} (h : CInv w wi g nb v l p) (hg : wi.grownBy wj (some g)) (hr : Rd wj g q) : CInv w wj g nb v l q :=
  ⟨hr, grown_trans h.grown hg, World.ownsRow.kept h.own hg (by
    cases hv : v.ownBlock with
    | none => exact .inl rfl
    | some k => exact .inr (fun e => by injection e with e; have := (World.ownsRow.lt h.own k hv).1; have := h.lo; omega)), blk_by hg h.names (by have := h.lo; have := h.nlo; omega), h.lo, h.nlo⟩
theorem CInv.below {w wi wj : World} {g nb : Nat} {v : Value} {l : List Ent} {p : Int} (h : CInv w wi g nb v l p) (hb : Below wi.heap.size wi wj) : CInv w wj g nb v l p :=
  h.by (grown_below hb _) (h.rd.keep hb h.rd.lt)
theorem CInv.put {w wi : World} {g nb : Nat} {v v' : Value} {l l' : List Ent} {p : Int} (h : CInv w wi g nb v l p) (ho : OwnE w.heap.size wi v' l') : CInv w wi g nb v' l' p := ⟨h.rd, h.grown, ho, h.names, h.lo, h.nlo⟩
theorem CInv.nm {w wi wj : World} {g nb : Nat} {v v' : Value} {l l' : List Ent} {p q : Int} (h : CInv w wi g nb v l p) (h' : CInv w wj g nb v' l' q) {o : Nat} {u : Option Value} (hc : wi.cell? ⟨nb, o, none⟩ = u) : wj.cell? ⟨nb, o, none⟩ = u := by
  rw [cell_block h'.names, ← cell_block h.names]; exact hc
theorem grown_new {a b c : World} {row : Option Nat} {j : Nat} (h : a.grownBy b row) (k : b.grownBy c (some j)) (hj : a.heap.size ≤ j) : a.grownBy c row :=
  ⟨k.os.trans h.os, k.tape.trans h.tape, k.output.trans h.output, Nat.le_trans h.size k.size, fun i hi hn => (k.block i (Nat.lt_of_lt_of_le hi h.size) (fun e => by injection e with e; omega)).trans (h.block i hi hn)⟩
theorem own_name {B : Nat} {w : World} {g cap : Nat} {l : List Ent} (h : OwnE B w (.slice (some ⟨g, 0, none⟩) l.length cap) l) (hz : Sz l) {i : Nat} (hi : i < l.length) : ∃ y, w.cell? ⟨g, i * 3, none⟩ = some (.string y) ∧ y.size ≤ 100 :=
  ⟨l[i].n, by rw [World.ownsRow.cellAt h (i * 3) (by omega)]; exact (entCells_at l i hi).1, (hz _ (List.getElem_mem hi)).1⟩
def nmAt (l : List Ent) (i : Nat) : ByteArray := match l[i]? with | some e => e.n | none => ⟨#[]⟩
theorem nmAt_size {l : List Ent} (hz : Sz l) (i : Nat) : (nmAt l i).size ≤ 100 := by
  unfold nmAt; split
  · rename_i e he; exact (hz e (List.mem_of_getElem? he)).1
  · decide
theorem own_nm {B : Nat} {w : World} {g cap : Nat} {l : List Ent} (h : OwnE B w (.slice (some ⟨g, 0, none⟩) l.length cap) l) : ∀ i, i < l.length → w.cell? ⟨g, i * 3, none⟩ = some (.string (nmAt l i)) := by
  intro i hi
  rw [World.ownsRow.cellAt h (i * 3) (by omega), (entCells_at l i hi).1, nmAt, List.getElem?_eq_getElem hi]
def CatPost (w : World) (g : Nat) (p : Int) (e : Ending) (w' : World) : Prop := ∃ gv cap l q, e = .returned (.slice (some ⟨gv, 0, none⟩) l.length cap) ∧ OwnE w.heap.size w' (.slice (some ⟨gv, 0, none⟩) l.length cap) l ∧ l.length ≤ 13 ∧ Sz l ∧ Rd w' g q ∧ q ≤ p + 60 ∧ w.grownBy w' (some g)
set_option maxHeartbeats 8000000 in
set_option maxRecDepth 100000 in
theorem anyCatalog_any (g : Nat) (p : Int) (w : World) (h : Rd w g p) (hp : p < 900000000) (hp0 : 0 ≤ p) :
    Calls Try.prog 38 #[.pointer (some ⟨g, 0, none⟩)] w (CatPost w g p) := by
  have hR := hide h
  have hg : g < w.heap.size := h.lt
  clear h
  obtain ⟨i0, hi, hz0, hz1, hz2⟩ := info_parts infoE
  go_enter Try.func38, Try.ntmps38
  go_wp2_with fail
  refine (one_lit g p _ 7 _ [4, 5, 3, 6, 1, 0, 12] _ (((hR.out.alloc _).alloc _).alloc _) (by omega) (blk_at (by simp) _) (by omega) (by decide) (by decide)).mono ?_
  rintro e w1 ⟨n, rfl, hm, hR1, hg1⟩
  have G1 : Hid (w.grownBy w1 (some g)) := grown_trans (grown_alloc (grown_alloc (grown_alloc (grown_below (Below.refl _ _) _) _) _) _) hg1
  have I1 : Hid (CInv w w1 g (w.heap.size + 1) (.slice (some ⟨w.heap.size, 0, none⟩) 0 0) [] (p + 1)) :=
    ⟨hR1, G1.out, World.ownsRow.kept (World.ownsRow.alloc (World.ownsRow.alloc (own_lit_at rfl (Nat.le_refl _)) _) _) hg1 (.inr (by simp [Value.ownBlock]; omega)),
      blk_by hg1 (blk_keep (blk_at (b := w.heap.size + 1) (by simp) (.cells (catNames.map Value.string).toArray 9)) _) (by omega), hg, by omega⟩
  obtain ⟨m, rfl⟩ : ∃ m : Nat, n = (m : Int) := ⟨n.toNat, by simp at hm; omega⟩
  have hm12 : m ≤ 12 := by simp at hm; omega
  clear hg1 hR1 hm G1
  go_wp2_with fail
  go_loopg [3, 5] m (fun gk s3 s5 wr => gk ≤ 12 ∧ s5 = .int .i64 (gk : Nat) ∧ ∃ (l : List Ent) (g3 cap3 : Nat) (pr : Int), s3 = .slice (some ⟨g3, 0, none⟩) l.length cap3 ∧ l.length + gk ≤ 12 ∧ Sz l ∧ CInv w wr g (w.heap.size + 1) (.slice (some ⟨g3, 0, none⟩) l.length cap3) l pr ∧ (0 ≤ pr ∧ pr + 3 * gk ≤ p + 40))
  case atStart => exact ⟨hm12, rfl, [], w.heap.size, 0, p + 1, rfl, by simp; omega, sz_nil, I1.out, by omega, by omega⟩
  case round =>
    clear I1 hR hm12
    obtain ⟨hm, rfl, l, g3, cap3, pr, rfl, hlm, hz, hI, hpr0, hpr⟩ := hrel
    have HZ := hide hz
    have HI := hide hI
    have hcaps := row_caps hI.own
    have hwr : w.heap.size ≤ wr.heap.size := hI.size
    have hgr : g < wr.heap.size := by omega
    have hgw : wr.heap.size ≠ g := by omega
    have hg3 : w.heap.size ≤ g3 := (World.ownsRow.lt hI.own g3 rfl).1
    have hg3r : g3 < wr.heap.size := (World.ownsRow.lt hI.own g3 rfl).2
    clear hI hz
    by_cases h0 : gk = 0
    · subst h0
      go_wp2_with fail
      refine (pick_any g pr 16 wr HI.out.rd (by omega)).mono ?_
      rintro e w2 ⟨q, rfl, -, hR2, hg2⟩
      have I2 := hide (HI.out.by hg2 hR2)
      clear hR2 hg2
      by_cases q0 : q = 0
      · subst q0
        have hs2 := I2.out.size
        go_wp2_with fail
        refine (of_lit g (pr + 1) _ 5 _ [⟨#[]⟩, ⟨#[65]⟩, ⟨#[97, 98, 99, 100, 101, 102, 103, 104, 105]⟩, ⟨#[98, 111, 111, 107, 115]⟩, ⟨#[113]⟩] _ (I2.out.rd.alloc _) (by omega) (blk_alloc _ _) (by omega) (by decide) (by decide)).mono ?_
        rintro e w3 ⟨xa, rfl, ha, hR3, hg3'⟩
        have za := hide ((show ∀ r ∈ ([⟨#[]⟩, ⟨#[65]⟩, ⟨#[97, 98, 99, 100, 101, 102, 103, 104, 105]⟩, ⟨#[98, 111, 111, 107, 115]⟩, ⟨#[113]⟩] : List ByteArray), r.size ≤ 100 from by decide) _ ha)
        have I3 := hide (I2.out.by (grown_trans (grown_alloc (World.grownBy.refl _ _) _) hg3') hR3)
        have hs3 := I3.out.size
        clear hR3 hg3' ha
        go_wp2_with fail
        refine (of_lit g (pr + 1 + 1) _ 3 _ [⟨#[]⟩, ⟨#[120]⟩, ⟨#[98, 111, 111, 107, 115]⟩] _ (I3.out.rd.alloc _) (by omega) (blk_alloc _ _) (by omega) (by decide) (by decide)).mono ?_
        rintro e w4 ⟨xb, rfl, ha, hR3, hg3'⟩
        have zb := hide ((show ∀ r ∈ ([⟨#[]⟩, ⟨#[120]⟩, ⟨#[98, 111, 111, 107, 115]⟩] : List ByteArray), r.size ≤ 100 from by decide) _ ha)
        have I4 := hide (I3.out.by (grown_trans (grown_alloc (World.grownBy.refl _ _) _) hg3') hR3)
        have hs4 := I4.out.size
        clear hR3 hg3' ha
        go_wp2_with fail
        refine (one_lit g (pr + 1 + 1 + 1) _ 3 _ [0, 1, 3] _ (I4.out.rd.alloc _) (by omega) (blk_alloc _ _) (by omega) (by decide) (by decide)).mono ?_
        rintro e w5 ⟨xc, rfl, -, hR3, hg3'⟩
        have I5 := hide (I4.out.by (grown_trans (grown_alloc (World.grownBy.refl _ _) _) hg3') hR3)
        have hs5 := I5.out.size
        clear hR3 hg3'
        go_wp2_with (at_builtin; refine wpList_append_lies _ rfl (.tmp 59) (.tmp 70) 23 rfl w.heap.size 27 i0 _ 3 40 Try.underlying23 hi hz0 hz1 hz2 rfl (by decide) _ _ _ rfl (World.ownsRow.alloc I5.out.own _) ⟨_, 0, none⟩ 1 1 [.string xa, .string xb, .int .i64 xc] rfl rfl ?c1 ?h1 (by decide) ?h63 ?hb ?hbase _ rfl ?next)
        case c1 => exact World.news_of_block (cs := #[.string xa, .string xb, .int .i64 xc]) (blk_at rfl _)
        case h1 => intro u hu; simp at hu; rcases hu with rfl | rfl | rfl <;> rfl
        case h63 => unfold maxLen; omega
        case hb => omega
        case hbase => simp; omega
        case next =>
          intro g6 cap6 w6 hown hgrow hat hlt6
          have HN : Hid (OwnE w.heap.size w6 (.slice (some ⟨g6, 0, none⟩) (l ++ [Ent.mk xa xb xc]).length cap6) (l ++ [Ent.mk xa xb xc])) := by
            unfold Hid OwnE
            rw [entCells_app, List.length_append]
            exact hown
          have G6 : Hid (w.grownBy w6 (some g)) := grown_new (grown_alloc I5.out.grown _) (show (w5.alloc _).grownBy w6 (some g3) from hgrow) hg3
          have R6 : Hid (Rd w6 g (pr + 1 + 1 + 1 + 1)) := (I5.out.rd.alloc _).keepBy (show (w5.alloc _).grownBy w6 (some g3) from hgrow) (by omega)
          clear hown hgrow hat
          go_wp2_with fail
          go_ret
          exact ⟨g6, cap6, l ++ [Ent.mk xa xb xc], _, by simp, HN.out, by simp; omega, sz_app HZ.out ⟨za.out, zb.out⟩, R6.out, by omega, G6.out⟩
      · go_wp2_with fail
        go_ret
        exact ⟨g3, cap3, l, _, rfl, I2.out.own, by omega, HZ.out, I2.out.rd, by omega, I2.out.grown⟩
    · have hll : l.length < 12 := by omega
      obtain ⟨xn, hxn, hxnz⟩ : ∃ s, wr.cell? ⟨w.heap.size + 1, l.length, none⟩ = some (.string s) ∧ s.size ≤ 100 :=
        ⟨catNames[l.length]'hll, (textrow HI.out.names).2 _ hll, (show ∀ r ∈ catNames, r.size ≤ 100 from by decide) _ (List.getElem_mem _)⟩
      have XN := hide hxn
      have hgk : (0 : Int) < (gk : Int) := by omega
      go_wp2_with fail
      refine (pick_any g pr 3 _ (HI.out.rd.alloc _) (by omega)).mono ?_
      rintro e w2 ⟨q, rfl, -, hR2, hg2⟩
      have TG : Hid (wr.grownBy w2 (some g)) := grown_trans (grown_alloc (World.grownBy.refl _ _) _) hg2
      have TI := hide (HI.out.by TG.out hR2)
      have TB := hide (blk_by hg2 (blk_alloc wr _) hgw)
      have n2 := hide (HI.out.nm TI.out XN.out)
      clear hR2 hg2 hxn
      by_cases hq : 0 < q
      · have hq' : decide (0 < q) = true := decide_eq_true hq
        by_cases hl0 : 0 < l.length
        · have hl1 : decide (0 < (l.length : Int)) = true := decide_eq_true (by omega)
          have hl2 : (0 : Int) < (l.length : Int) := by omega
          have hl3 : (l.length : Int) < 12 := by omega
          have hl4 : (0 : Int) ≤ (l.length : Int) := by omega
          have n2' := n2.out
          have hwr2 := lt_block TB.out
          go_upto_region 8 with fail
          go_cut [6] (fun s6 wx => ∃ (xt : ByteArray) (xs : Int), s6 = .pointer (some ⟨wr.heap.size, 0, none⟩) ∧ wx.heap[wr.heap.size]? = some (.cells #[.string xn, .string xt, .int .i64 xs] 27 (0, 0)) ∧ xt.size ≤ 100 ∧ CInv w wx g (w.heap.size + 1) (.slice (some ⟨g3, 0, none⟩) l.length cap3) l (pr + 1 + 1 + 1))
          case first =>
            have S2 := hide (show w2.cell? ⟨w.heap.size + 1, l.length, none⟩ = some (.string xn) ∧ ∀ i, i < l.length → w2.cell? ⟨g3, i * 3, none⟩ = some (.string (nmAt l i)) from ⟨n2.out, own_nm TI.out.own⟩)
            go_region_held3 (fun w' => w'.cell? ⟨w.heap.size + 1, l.length, none⟩ = some (.string xn) ∧ ∀ i, i < l.length → w'.cell? ⟨g3, i * 3, none⟩ = some (.string (nmAt l i))) (first | exact S2.out | exact S3.out | exact S4.out | exact S5.out _ _ _) (first
              | (go_at_call 48; refine (pick_any g (pr + 1 + 1) 3 _ I3.out.rd (by omega)).mono ?_; rintro e w4 ⟨xs, rfl, -, hR4, hg4⟩; have I4 := hide (I3.out.by hg4 hR4); have T4 := hide (blk_by hg4 T3.out hgw); have G4 : Hid (wr.grownBy w4 (some g)) := (grown_trans G3.out hg4); have S4 := hide (And.intro (TI.out.nm I4.out n2.out) (own_nm I4.out.own)); obtain ⟨⟨d0, d1, d2⟩, f0, f1, f2⟩ := cells3 T4.out; have G5 : Hid (∀ a b c, wr.grownBy (((w4.setCell ⟨wr.heap.size, 0, none⟩ a).setCell ⟨wr.heap.size, 1, none⟩ b).setCell ⟨wr.heap.size, 2, none⟩ c) (some g)) := (fun a b c => grown_setNew (grown_setNew (grown_setNew G4.out (Nat.le_refl _)) (Nat.le_refl _)) (Nat.le_refl _)); have I5 := hide (fun a b c => HI.out.by (G5.out a b c) (((I4.out.rd.setCell hgr).setCell hgr).setCell hgr)); have S5 := hide (fun a b c => And.intro (TI.out.nm (I5.out a b c) n2.out) (own_nm (I5.out a b c).own)); clear hR4 hg4)
              | (go_at_call 48; refine (pick_any g (pr + 1) (l.length : Int) _ TI.out.rd.drew (by omega)).mono ?_; rintro e w3 ⟨r, rfl, hr, hR3, hg3'⟩; obtain ⟨i, rfl⟩ : ∃ i : Nat, r = (i : Int) := (⟨r.toNat, by have := hr.1; omega⟩); have hir : i < l.length := (by have := hr.2 (by omega); omega); have I3 := hide (TI.out.by (grown_trans (grown_drew (World.grownBy.refl _ _)) hg3') hR3); have T3 := hide (blk_by hg3' (blk_drew' TB.out) hgw); have G3 : Hid (wr.grownBy w3 (some g)) := (grown_trans TG.out (grown_trans (grown_drew (World.grownBy.refl _ _)) hg3')); have S3 := hide (And.intro (TI.out.nm I3.out n2.out) (own_nm I3.out.own)); clear hr hR3 hg3'))
            all_goals
              go_wp2_with fail
              go_meet
              exact ⟨_, _, rfl, blk_set3 T4.out, nmAt_size HZ.out _, I5.out _ _ _⟩
          case rest =>
            obtain ⟨xt, xs, rfl, TB', hxtz, TI'⟩ := hcut
            clear TB TI TG n2 n2'
            have TB := hide TB'
            have TI := hide TI'
            have xz : Hid (xn.size ≤ 100 ∧ xt.size ≤ 100) := ⟨hxnz, hxtz⟩
            clear TB' TI' hxtz
            obtain ⟨⟨c0, c1, c2⟩, -⟩ := cells3 TB.out
            go_wp2_with fail
            refine (sAddEntry_any ⟨xn, xt, xs⟩ _ l _ (OwnE.ents TI.out.own (sz_big HZ.out)) ⟨by have := xz.out.1; simp; omega, by have := xz.out.2; simp; omega⟩ ⟨_, _, _, rfl⟩).mono ?_
            rintro e w5 ⟨v5, rfl, ho5, hb5⟩
            have O5 := hide ho5
            have I5 := hide (TI.out.below hb5)
            clear ho5 hb5 c0 c1 c2
            by_cases hok : addOk l (Ent.mk xn xt xs) = true
            · have hR : addR l (Ent.mk xn xt xs) = l ++ [Ent.mk xn xt xs] := by simp [addR, hok]
              rw [hok]
              rw [hR] at O5
              obtain ⟨g5, cap5, rfl, hg5, hl5⟩ := World.ownsRow.form O5.out (by simp)
              have L5 : (l ++ [Ent.mk xn xt xs]).length = l.length + 1 := by simp
              have hcp := row_caps O5.out
              rw [L5] at hcp
              rw [L5]
              have O5' : Hid (OwnE w.heap.size w5 (.slice (some ⟨g5, 0, none⟩) (l.length + 1) cap5) (l ++ [Ent.mk xn xt xs])) := own_mono (by have := O5.out; rw [L5] at this; exact this) TI.out.size
              clear hok hR L5
              go_wp2_with fail
              go_roundg (gk - 1)
              case measure => omega
              case rel => exact ⟨by omega, by go_num, l ++ [Ent.mk xn xt xs], g5, cap5, _, by simp, by simp; omega, sz_app HZ.out xz.out, I5.out.put (by rw [List.length_append]; exact O5'.out), by omega⟩
            · have hok' : addOk l (Ent.mk xn xt xs) = false := by simpa using hok
              rw [hok']
              clear hok hok' O5
              go_wp2_with fail
              go_roundg (gk - 1)
              case measure => omega
              case rel => exact ⟨by omega, by go_num, l, g3, cap3, _, rfl, by omega, HZ.out, I5.out, by omega⟩
        · have hl1 : decide (0 < (l.length : Int)) = false := decide_eq_false (by omega)
          obtain ⟨xt, xs, hxt, hxs⟩ : ∃ (xt : ByteArray) (xs : Int), xt = ⟨#[]⟩ ∧ xs = 1 := ⟨_, _, rfl, rfl⟩
          have xz : Hid (xn.size ≤ 100 ∧ xt.size ≤ 100) := ⟨hxnz, by rw [hxt]; decide⟩
          rw [← hxt, ← hxs] at TB
          clear hxt hxs
          obtain ⟨⟨c0, c1, c2⟩, -⟩ := cells3 TB.out
          go_wp2_with fail
          refine (sAddEntry_any ⟨xn, xt, xs⟩ _ l _ (OwnE.ents TI.out.own (sz_big HZ.out)) ⟨by have := xz.out.1; simp; omega, by have := xz.out.2; simp; omega⟩ ⟨_, _, _, rfl⟩).mono ?_
          rintro e w5 ⟨v5, rfl, ho5, hb5⟩
          have O5 := hide ho5
          have I5 := hide (TI.out.below hb5)
          clear ho5 hb5 c0 c1 c2
          by_cases hok : addOk l (Ent.mk xn xt xs) = true
          · have hR : addR l (Ent.mk xn xt xs) = l ++ [Ent.mk xn xt xs] := by simp [addR, hok]
            rw [hok]
            rw [hR] at O5
            obtain ⟨g5, cap5, rfl, hg5, hl5⟩ := World.ownsRow.form O5.out (by simp)
            have L5 : (l ++ [Ent.mk xn xt xs]).length = l.length + 1 := by simp
            have hcp := row_caps O5.out
            rw [L5] at hcp
            rw [L5]
            have O5' : Hid (OwnE w.heap.size w5 (.slice (some ⟨g5, 0, none⟩) (l.length + 1) cap5) (l ++ [Ent.mk xn xt xs])) := own_mono (by have := O5.out; rw [L5] at this; exact this) TI.out.size
            clear hok hR L5
            go_wp2_with fail
            go_roundg (gk - 1)
            case measure => omega
            case rel => exact ⟨by omega, by go_num, l ++ [Ent.mk xn xt xs], g5, cap5, _, by simp, by simp; omega, sz_app HZ.out xz.out, I5.out.put (by rw [List.length_append]; exact O5'.out), by omega⟩
          · have hok' : addOk l (Ent.mk xn xt xs) = false := by simpa using hok
            rw [hok']
            clear hok hok' O5
            go_wp2_with fail
            go_roundg (gk - 1)
            case measure => omega
            case rel => exact ⟨by omega, by go_num, l, g3, cap3, _, rfl, by omega, HZ.out, I5.out, by omega⟩
      · have hq' : decide (0 < q) = false := decide_eq_false hq
        obtain ⟨xt, xs, hxt, hxs⟩ : ∃ (xt : ByteArray) (xs : Int), xt = ⟨#[]⟩ ∧ xs = 1 := ⟨_, _, rfl, rfl⟩
        have xz : Hid (xn.size ≤ 100 ∧ xt.size ≤ 100) := ⟨hxnz, by rw [hxt]; decide⟩
        rw [← hxt, ← hxs] at TB
        clear hxt hxs
        obtain ⟨⟨c0, c1, c2⟩, -⟩ := cells3 TB.out
        go_wp2_with fail
        refine (sAddEntry_any ⟨xn, xt, xs⟩ _ l _ (OwnE.ents TI.out.own (sz_big HZ.out)) ⟨by have := xz.out.1; simp; omega, by have := xz.out.2; simp; omega⟩ ⟨_, _, _, rfl⟩).mono ?_
        rintro e w5 ⟨v5, rfl, ho5, hb5⟩
        have O5 := hide ho5
        have I5 := hide (TI.out.below hb5)
        clear ho5 hb5 c0 c1 c2
        by_cases hok : addOk l (Ent.mk xn xt xs) = true
        · have hR : addR l (Ent.mk xn xt xs) = l ++ [Ent.mk xn xt xs] := by simp [addR, hok]
          rw [hok]
          rw [hR] at O5
          obtain ⟨g5, cap5, rfl, hg5, hl5⟩ := World.ownsRow.form O5.out (by simp)
          have L5 : (l ++ [Ent.mk xn xt xs]).length = l.length + 1 := by simp
          have hcp := row_caps O5.out
          rw [L5] at hcp
          rw [L5]
          have O5' : Hid (OwnE w.heap.size w5 (.slice (some ⟨g5, 0, none⟩) (l.length + 1) cap5) (l ++ [Ent.mk xn xt xs])) := own_mono (by have := O5.out; rw [L5] at this; exact this) TI.out.size
          clear hok hR L5
          go_wp2_with fail
          go_roundg (gk - 1)
          case measure => omega
          case rel => exact ⟨by omega, by go_num, l ++ [Ent.mk xn xt xs], g5, cap5, _, by simp, by simp; omega, sz_app HZ.out xz.out, I5.out.put (by rw [List.length_append]; exact O5'.out), by omega⟩
        · have hok' : addOk l (Ent.mk xn xt xs) = false := by simpa using hok
          rw [hok']
          clear hok hok' O5
          go_wp2_with fail
          go_roundg (gk - 1)
          case measure => omega
          case rel => exact ⟨by omega, by go_num, l, g3, cap3, _, rfl, by omega, HZ.out, I5.out, by omega⟩
end Go.Proofs.Yteikeljklfblmaa
