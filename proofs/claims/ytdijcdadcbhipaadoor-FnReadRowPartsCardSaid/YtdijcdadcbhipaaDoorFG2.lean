/-
  The generators of columns and formats.
-/
import Derived.Test.YtdijcdadcbhipaaDoorFG1
import Derived.Test.YtdijcdadcbhipaaDoorFSc0
set_option linter.all false
namespace Go.Proofs.YtdijcdadcbhipaaDoor
open Go.RowKit
theorem Rd.keepOwn {w w' : World} {g : Nat} {p : Int} {row : Option Nat} (h : Rd w g p) (hg : w.grownBy w' row) (hk : ∀ k, row = some k → g < k) : Rd w' g p :=
  h.keep (C := g + 1) ((Below.refl (g + 1) w).grown hg h.lt (fun k e => hk k e)) (by omega)
theorem grown_newO {a b c : World} {row row2 : Option Nat} (h : a.grownBy b row) (k : b.grownBy c row2) (hj : ∀ j, row2 = some j → a.heap.size ≤ j) : a.grownBy c row :=
  ⟨k.os.trans h.os, k.tape.trans h.tape, k.output.trans h.output, Nat.le_trans h.size k.size, fun i hi hn => (k.block i (Nat.lt_of_lt_of_le hi h.size) (fun e => by have := hj i e.symm; omega)).trans (h.block i hi hn)⟩
theorem own_byR {α : Type} {enc : α → List Value} {k : Nat} {e : TypeId} {B g : Nat} {w w' : World} {v : Value} {l : List α} (h : OwnR enc k e B w v l) (hg : w.grownBy w' (some g)) (hlo : g < B) : OwnR enc k e B w' v l :=
  World.ownsRow.kept h hg (by
    cases hv : v.ownBlock with
    | none => exact .inl rfl
    | some j => exact .inr (fun e => by injection e with e; have := OwnR.base h j hv; omega))
def CPost (w : World) (g : Nat) (p : Int) (K : Int) (e : Ending) (w' : World) : Prop := ∃ (c : RCol) (q : Int), e = .returned (.agg #[.int .i64 c.k, .int .i64 c.d.k, .int .i64 c.d.n, .string c.d.s]) ∧ genV c.d ∧ Rd w' g q ∧ (p ≤ q ∧ q ≤ p + K) ∧ w.grownBy w' (some g)
set_option maxHeartbeats 4000000 in
set_option maxRecDepth 100000 in
theorem randomColumn_any (g : Nat) (p : Int) (w : World) (h : Rd w g p) (hp : p < 800000000) (hp0 : 0 ≤ p) :
    Calls Tryd.prog 87 #[.pointer (some ⟨g, 0, none⟩)] w (CPost w g p 5) := by
  have R0 := hide (h.alloc (.cells #[.int .i64 0, .int .i64 0, .int .i64 0, .string ⟨#[]⟩] 27))
  have hg : g < w.heap.size := h.lt
  have B0 := hide (blk_alloc w (.cells #[.int .i64 0, .int .i64 0, .int .i64 0, .string ⟨#[]⟩] 27))
  have G0 : Hid (w.grownBy (w.alloc (.cells #[.int .i64 0, .int .i64 0, .int .i64 0, .string ⟨#[]⟩] 27)) (some g)) := grown_alloc (World.grownBy.refl _ _) _
  clear h
  go_enter Tryd.func87, Tryd.ntmps87
  go_wp2_with fail
  refine (pick_any g p 2 _ R0.out (by omega)).mono ?_
  rintro e w1 ⟨r, rfl, ⟨hr0, hr1⟩, hR1, hg1⟩
  have hr2 := hr1 (by omega)
  have hwr : IntKind.i64.wrap (1 + r) = 1 + r := by rw [IntKind.wrap_i64]; omega
  have R1 := hide hR1
  have G1 : Hid (w.grownBy w1 (some g)) := grown_trans G0.out hg1
  have B1 := hide (blk_by hg1 B0.out (by omega))
  clear hR1 hg1 R0 B0 G0 hr1
  go_wp2_with fail
  refine (randomValue_any g (p + 1) (1 + r) _ R1.out (by omega) (by omega)).mono ?_
  rintro e w2 ⟨x, q, rfl, hgv, hR2, hq, hg2⟩
  have R2 := hide hR2
  have G2 : Hid (w.grownBy w2 (some g)) := grown_trans G1.out hg2
  have B2 := hide (blk_by hg2 B1.out (by omega))
  have HG := hide hgv
  obtain ⟨⟨b0, b1, b2, b3⟩, n0, n1, n2, n3⟩ := cells4 B2.out
  clear hR2 hg2 hgv
  go_wp2_with fail
  all_goals go_tidy
  exact ⟨rfl, .agg #[.int .i64 (1 + r), .int .i64 x.k, .int .i64 x.n, .string x.s], by simp [results, Tryd.results87, go_sem, b0, b1, b2, b3, n0, n1, n2, n3], ⟨1 + r, x⟩, q, rfl, HG.out, (Rd.setCell (Rd.setCell (Rd.setCell (Rd.setCell R2.out (by omega)) (by omega)) (by omega)) (by omega)), by omega, (grown_setNew (grown_setNew (grown_setNew (grown_setNew G2.out (by simp)) (by simp)) (by simp)) (by simp))⟩
/-- a format that a generator has made, while it works -/
structure FInv (w wi : World) (g : Nat) (v : Value) (l : List RCol) (p : Int) : Prop where
  rd : Rd wi g p
  grown : w.grownBy wi (some g)
  own : OwnC w.heap.size wi v l
  gen : ∀ x ∈ l, genV x.d
  lo : g < w.heap.size
theorem FInv.size {w wi : World} {g : Nat} {v : Value} {l : List RCol} {p : Int} (h : FInv w wi g v l p) : w.heap.size ≤ wi.heap.size := h.grown.size
theorem FInv.by {w wi wj : World} {g : Nat} {v : Value} {l : List RCol} {p q : Int} (h : FInv w wi g v l p) (hg : wi.grownBy wj (some g)) (hr : Rd wj g q) : FInv w wj g v l q :=
  ⟨hr, grown_trans h.grown hg, own_byR h.own hg h.lo, h.gen, h.lo⟩
theorem FInv.alloc {w wi : World} {g : Nat} {v : Value} {l : List RCol} {p : Int} (h : FInv w wi g v l p) (o : Obj) : FInv w (wi.alloc o) g v l p :=
  h.by (grown_alloc (World.grownBy.refl _ _) _) (h.rd.alloc o)
/-- one more record -/
theorem FInv.app {w wi wj : World} {g : Nat} {v v' : Value} {l : List RCol} {p : Int} {c : RCol} (h : FInv w wi g v l p) (ho : OwnC w.heap.size wj v' (l ++ [c])) (hg : wi.grownBy wj v.ownBlock) (hc : genV c.d) : FInv w wj g v' (l ++ [c]) p :=
  ⟨h.rd.keepOwn hg (fun k e => by have := OwnR.base h.own k e; have := h.lo; omega), grown_newO h.grown hg (OwnR.base h.own), ho, fun x hx => by
    rcases List.mem_append.1 hx with hx | hx
    · exact h.gen x hx
    · rw [List.mem_singleton.1 hx]; exact hc, h.lo⟩
def FPost (w : World) (g : Nat) (p : Int) (K : Int) (m n : Nat) (e : Ending) (w' : World) : Prop := ∃ (v : Value) (l : List RCol) (q : Int), e = .returned v ∧ FInv w w' g v l q ∧ m ≤ l.length ∧ l.length ≤ n ∧ (p ≤ q ∧ q ≤ p + K)
set_option maxHeartbeats 8000000 in
set_option maxRecDepth 100000 in
theorem randomFormat_any (g : Nat) (p : Int) (w : World) (h : Rd w g p) (hp : p < 700000000) (hp0 : 0 ≤ p) :
    Calls Tryd.prog 85 #[.pointer (some ⟨g, 0, none⟩)] w (FPost w g p 40 1 5) := by
  have hg : g < w.heap.size := h.lt
  have I0 : Hid (FInv w (w.alloc (.cells #[] 27)) g (.slice (some ⟨w.heap.size, 0, none⟩) 0 0) [] p) := ⟨h.alloc _, grown_alloc (World.grownBy.refl _ _) _, own_lit (Nat.le_refl _), (fun x hx => by simp at hx), hg⟩
  clear h
  go_enter Tryd.func85, Tryd.ntmps85
  go_wp2_with fail
  refine (one_lit g p (w.heap.size + 1) 5 _ [2, 3, 1, 4, 5] _ (I0.out.rd.alloc _) (by omega) (blk_at (W := w.alloc (.cells #[] 27)) (by simp) _) (by omega) (by decide) (by decide)).mono ?_
  rintro e w1 ⟨n, rfl, hm, hR1, hg1⟩
  have I1 := hide (I0.out.by (grown_trans (grown_alloc (World.grownBy.refl _ _) _) hg1) hR1)
  obtain ⟨m, rfl⟩ : ∃ m : Nat, n = (m : Int) := ⟨n.toNat, by simp at hm; omega⟩
  have hm5 : 1 ≤ m ∧ m ≤ 5 := by simp at hm; omega
  clear hm hR1 hg1 I0
  go_wp2_with fail
  go_loopg [3, 4] m (fun gk s3 s4 wr => s4 = .int .i64 (gk : Nat) ∧ ∃ (l : List RCol) (pr : Int), l.length + gk = m ∧ FInv w wr g s3 l pr ∧ (p ≤ pr ∧ pr + 6 * gk ≤ p + 40))
  case atStart => exact ⟨rfl, [], p + 1, by simp, I1.out, by omega⟩
  case round =>
    clear I1
    obtain ⟨rfl, l, pr, hlm, hI, hpr0, hpr⟩ := hrel
    have HI := hide hI
    obtain ⟨a3, c3, rfl, hc3, hc4⟩ := own_slc hI.own
    clear hI
    by_cases h0 : gk = 0
    · subst h0
      go_wp2_with fail
      go_ret
      exact ⟨_, l, pr, rfl, HI.out, by omega, by omega, by omega⟩
    · have hgk : (0 : Int) < (gk : Int) := by omega
      go_wp2_with fail
      refine (randomColumn_any g pr wr HI.out.rd (by omega) (by omega)).mono ?_
      rintro e w3 ⟨c, q, rfl, hgv, hR3, hq, hg3⟩
      have I3 := hide (HI.out.by hg3 hR3)
      have HG := hide hgv
      have I4 := hide (I3.out.alloc (.cells #[.int .i64 c.k, .int .i64 c.d.k, .int .i64 c.d.n, .string c.d.s] 27))
      have L4 := hide (recs_lit cEnc_len c (blk_alloc w3 (.cells #[.int .i64 c.k, .int .i64 c.d.k, .int .i64 c.d.n, .string c.d.s] 27)))
      have S3 := hide I3.out.size
      clear hR3 hg3 hgv HI
      go_wp2_with (at_builtin; refine wpList_appR (enc := cEnc) (k := 4) (by decide) cEnc_len cEnc_one rfl (.tmp 13) (.tmp 16) 23 27 rfl 40 (by decide) Tryd.underlying23 _ infoC rfl w.heap.size (.slice a3 l.length c3) l rfl I4.out.own (by omega) _ [c] rfl L4.out (by simp) (by have := S3.out; simp; omega) ?_)
      intro v' w5 ho hgr
      have I5 := hide (I4.out.app ho hgr HG.out)
      clear ho hgr I4 L4
      go_wp2_with fail
      go_roundg (gk - 1)
      case measure => omega
      case rel => exact ⟨by go_num, l ++ [c], q, by simp; omega, I5.out, by omega⟩
end Go.Proofs.YtdijcdadcbhipaaDoor
