/-
  The walk of FnExactCheckOf.
-/
import Derived.Test.YtppffmnokmhcoaaChk10
import Derived.Test.YtppffmnokmhcoaaChk11
set_option linter.all false
namespace Go.Proofs.Ytppffmnokmhcoaa
open Go.RowKit
/-- three rows that can be read, in blocks between two bounds -/
def Trip (lo hi : Nat) (w : World) (d f a : Value) (ds fs ac : List Int) : Prop :=
  ∃ g1 g2 g3, (RowN g1 w d ds ∧ RowN g2 w f fs ∧ RowN g3 w a ac) ∧ (ds ≠ [] → lo ≤ g1 ∧ g1 < hi) ∧ (fs ≠ [] → lo ≤ g2 ∧ g2 < hi) ∧ (ac ≠ [] → lo ≤ g3 ∧ g3 < hi)
theorem Trip.keep {lo hi : Nat} {w w' : World} {d f a : Value} {ds fs ac : List Int} (h : Trip lo hi w d f a ds fs ac) (hb : Below w.heap.size w w') : Trip lo hi w' d f a ds fs ac := by
  obtain ⟨g1, g2, g3, ⟨h1, h2, h3⟩, h4⟩ := h
  exact ⟨g1, g2, g3, ⟨h1.keep hb, h2.keep hb, h3.keep hb⟩, h4⟩
theorem Trip.kept {lo hi g : Nat} {w w' : World} {d f a : Value} {ds fs ac : List Int} (h : Trip lo hi w d f a ds fs ac) (hb : w.grownBy w' (some g)) (hg : hi ≤ g) : Trip lo hi w' d f a ds fs ac := by
  obtain ⟨g1, g2, g3, ⟨h1, h2, h3⟩, h4, h5, h6⟩ := h
  exact ⟨g1, g2, g3, ⟨h1.kept hb (fun q => by have := h4 q; omega), h2.kept hb (fun q => by have := h5 q; omega), h3.kept hb (fun q => by have := h6 q; omega)⟩, h4, h5, h6⟩
theorem Trip.nums {lo hi : Nat} {w : World} {d f a : Value} {ds fs ac : List Int} (h : Trip lo hi w d f a ds fs ac) : Nums w d ds ∧ Nums w f fs ∧ Nums w a ac := by
  obtain ⟨g1, g2, g3, ⟨h1, h2, h3⟩, -⟩ := h
  exact ⟨h1.nums, h2.nums, h3.nums⟩
theorem rowN_any {B : Nat} {w : World} {v : Value} {l : List Int} (h : OwnN B w v l) (x : Nat) : ∃ g, RowN g w v l ∧ (l ≠ [] → v.ownBlock = some g ∧ B ≤ g ∧ g < w.heap.size) ∧ (l = [] → g = x) := by
  obtain ⟨g, h1, h2, h3⟩ := h.row
  by_cases hl : l = []
  · subst hl
    obtain ⟨a, cap, hv, q1, q2, -⟩ := h3
    exact ⟨x, ⟨a, cap, hv, q1, q2, .inl rfl⟩, fun q => absurd rfl q, fun _ => rfl⟩
  · refine ⟨g, h3, fun _ => ⟨?_, h1, h2 hl⟩, fun q => absurd q hl⟩
    obtain ⟨a, cap, rfl, q1, q2, q3⟩ := h3
    obtain ⟨rfl, -⟩ := q3.resolve_left hl
    rfl
theorem RowN.other {g b : Nat} {w : World} {v : Value} {l : List Int} {cs : Array Value} (h : RowN g w v l) (hg : l = [] → w.heap.size ≤ g) (hb : w.heap[b]? = some (.cells cs 28 (0, 0))) : g ≠ b := by
  intro e
  subst e
  by_cases hl : l = []
  · have := hg hl; have := lt_block hb; omega
  · obtain ⟨a, cap, -, -, -, h3⟩ := h
    obtain ⟨-, cs', h4, -⟩ := h3.resolve_left hl
    rw [hb] at h4
    injection h4 with h4
    injection h4 with _ h4 _
    exact absurd h4 (by decide)
theorem Rows3.trip {B : Nat} {w : World} {d f a : Value} {ds fs ac : List Int} (h : Rows3 B w d f a ds fs ac) : Trip B w.heap.size w d f a ds fs ac := by
  obtain ⟨g1, a1, a2, -⟩ := rowN_any h.1.1 0
  obtain ⟨g2, b1, b2, -⟩ := rowN_any h.1.2.1 0
  obtain ⟨g3, c1, c2, -⟩ := rowN_any h.2.1 0
  exact ⟨g1, g2, g3, ⟨a1, b1, c1⟩, fun q => (a2 q).2, fun q => (b2 q).2, fun q => (c2 q).2⟩
/-- three rows in three blocks, none of which is the next one -/
theorem Rows3.three {B : Nat} {w : World} {d f a : Value} {ds fs ac : List Int} (h : Rows3 B w d f a ds fs ac) : ∃ g1 g2 g3, (RowN g1 w d ds ∧ RowN g2 w f fs ∧ RowN g3 w a ac) ∧ (g1 ≠ g2 ∧ g1 ≠ g3 ∧ g2 ≠ g3) ∧ (g1 ≠ w.heap.size ∧ g2 ≠ w.heap.size ∧ g3 ≠ w.heap.size) ∧ (B ≤ w.heap.size → B ≤ g1 ∧ B ≤ g2 ∧ B ≤ g3) ∧ (∀ b cs, w.heap[b]? = some (.cells cs 28 (0, 0)) → g1 ≠ b ∧ g2 ≠ b ∧ g3 ≠ b) := by
  obtain ⟨g1, a1, a2, a3⟩ := rowN_any h.1.1 (w.heap.size + 1)
  obtain ⟨g2, b1, b2, b3⟩ := rowN_any h.1.2.1 (w.heap.size + 2)
  obtain ⟨g3, c1, c2, c3⟩ := rowN_any h.2.1 (w.heap.size + 3)
  have n12 := h.1.2.2
  have n3 := h.2.2
  clear h
  by_cases e1 : ds = [] <;> by_cases e2 : fs = [] <;> by_cases e3 : ac = []
  all_goals
    first | (have x1 := a3 e1) | (have x1 := a2 e1)
    first | (have x2 := b3 e2) | (have x2 := b2 e2)
    first | (have x3 := c3 e3) | (have x3 := c2 e3)
    refine ⟨g1, g2, g3, ⟨a1, b1, c1⟩, ⟨?_, ?_, ?_⟩, ⟨by omega, by omega, by omega⟩, fun hB => ⟨by omega, by omega, by omega⟩, fun b cs hb => ⟨a1.other (fun q => by have := a3 q; omega) hb, b1.other (fun q => by have := b3 q; omega) hb, c1.other (fun q => by have := c3 q; omega) hb⟩⟩
    · first | omega | (rintro rfl; exact n12 _ x1.1 x2.1)
    · first | omega | (rintro rfl; exact (n3 _ x3.1).1 x1.1)
    · first | omega | (rintro rfl; exact (n3 _ x3.1).2 x2.1)
theorem Rows3.kept {B g : Nat} {w w' : World} {d f a : Value} {ds fs ac : List Int} (h : Rows3 B w d f a ds fs ac) (hg : w.grownBy w' (some g)) (hB : g < B) : Rows3 B w' d f a ds fs ac := by
  have k : ∀ {v : Value} {ns : List Int}, OwnN B w v ns → OwnN B w' v ns := fun {v ns} o => World.ownsRow.kept o hg (by
    by_cases hv : v.ownBlock = none
    · exact .inl hv
    · exact .inr (fun e => by have := World.ownsRow.lt o g e; omega))
  exact ⟨⟨k h.1.1, k h.1.2.1, h.1.2.2⟩, k h.2.1, h.2.2⟩
theorem ckOf_same {c : List RCell} {l : List RNote} {ds fs ac ds' fs' ac' : List Int} (h : CkOf c l ds fs ac) (h' : CkOf c l ds' fs' ac') : ds' = ds ∧ fs' = fs ∧ ac' = ac := by
  by_cases hu : usP c l
  · obtain ⟨h1, h2, h3⟩ := h.1 hu
    obtain ⟨k1, k2, k3⟩ := h'.1 hu
    exact ⟨k1.trans h1.symm, k2.trans h2.symm, k3.trans h3.symm⟩
  · obtain ⟨h1, h2, h3⟩ := h.2 hu
    obtain ⟨k1, k2, k3⟩ := h'.2 hu
    exact ⟨k1.trans h1.symm, k2.trans h2.symm, k3.trans h3.symm⟩
theorem ckOf_len {c : List RCell} {l : List RNote} {ds fs ac : List Int} (h : CkOf c l ds fs ac) : ds.length ≤ 6 ∧ fs.length ≤ 6 ∧ ac.length ≤ 8 := by
  by_cases hu : usP c l
  · obtain ⟨rfl, rfl, rfl⟩ := h.1 hu
    have h1 := dirT_len (fstN c l) c.length
    have h2 := hu.1.1.2
    have h3 : (openT l 8).length ≤ 8 := by
      unfold openT
      rw [List.length_map]
      exact Nat.le_trans (List.length_filter_le _ _) (by simp)
    omega
  · obtain ⟨rfl, rfl, rfl⟩ := h.2 hu
    simp
theorem MarkCRet.grown {w w' : World} {m g1 g2 g3 n1 n2 n3 : Nat} {d f a : Value} {e : Ending} (h : MarkCRet w m g1 g2 g3 n1 n2 n3 d f a e w') {B : Nat} {x : World} (hx : Below B x w) (hB : B ≤ w.heap.size) (q1 : B ≤ g1) (q2 : B ≤ g2) (q3 : B ≤ g3) : Below B x w' := by
  obtain ⟨-, -, -, -, wa, wb, wc, h1, h2, h3, h4⟩ := h
  have s1 := h1.size
  have s2 := h2.size
  have s3 := h3.size
  exact (((hx.trans (h1.mono hB)).grown h2 (by omega) (fun k hk => by cases hk; exact q1)).grown h3 (by omega) (fun k hk => by cases hk; exact q2)).grown h4 (by omega) (fun k hk => by cases hk; exact q3)
theorem MarkCRet.trip {w w' : World} {m g1 g2 g3 n1 n2 n3 lo hi : Nat} {d f a d' f' a' : Value} {ds fs ac : List Int} {e : Ending} (h : MarkCRet w m g1 g2 g3 n1 n2 n3 d f a e w') (t : Trip lo hi w d' f' a' ds fs ac) (q1 : hi ≤ g1) (q2 : hi ≤ g2) (q3 : hi ≤ g3) : Trip lo hi w' d' f' a' ds fs ac := by
  obtain ⟨-, -, -, -, wa, wb, wc, h1, h2, h3, h4⟩ := h
  exact (((t.keep h1).kept h2 q1).kept h3 q2).kept h4 q3
end Go.Proofs.Ytppffmnokmhcoaa
