/-
  Marks on leaves: rows of rows that lie in known blocks; toItemSS, markItemSS, heldItemSS.
-/
import Derived.Test.YtmlphdniiiijpaaTreeX2
set_option linter.all false
namespace Go.Proofs.Ytmlphdniiiijpaa
open Go.RowKit
theorem infoLvs : (Try.prog.info? 28).map (fun i => (i.zero, i.size, i.bytes)) = some (some (.slice none 0 0), 1, 24) := by kernel_rfl
/-- only blocks from lo up to hi have changed -/
structure Wi (lo hi : Nat) (w w' : World) : Prop where
  below : Below lo w w'
  above : ∀ b, hi ≤ b → b < w.heap.size → w'.heap[b]? = w.heap[b]?
theorem Wi.refl (lo hi : Nat) (w : World) : Wi lo hi w w := ⟨Below.refl _ _, fun _ _ _ => rfl⟩
theorem Wi.trans {lo hi : Nat} {a b c : World} (h : Wi lo hi a b) (k : Wi lo hi b c) : Wi lo hi a c := ⟨h.below.trans k.below, fun q h1 h2 => (k.above q h1 (Nat.lt_of_lt_of_le h2 h.below.size)).trans (h.above q h1 h2)⟩
theorem Wi.of {lo hi g : Nat} {w w' : World} (hg : w.grownBy w' (some g)) (h1 : lo ≤ g) (h2 : g < hi) (hl : lo ≤ w.heap.size) : Wi lo hi w w' :=
  ⟨(Below.refl _ _).grown hg hl (fun q hq => by injection hq with hq; omega), fun b h3 h4 => hg.block b h4 (fun e => by injection e with e; omega)⟩
/-- leaves, each the beginning of a block of its own, in a row that begins a block -/
def MkT (lo hi : Nat) (w : World) (v : Value) (t : List (List Itm)) : Prop := ∃ a cap, v = .slice a t.length cap ∧ t.length ≤ cap ∧ cap ≤ 9223372036854775807 ∧
  (t = [] ∨ ∃ b cs, ∃ G : Nat → Nat, a = some ⟨b, 0, none⟩ ∧ lo ≤ b ∧ b < hi ∧ w.heap[b]? = some (.cells cs 28 (0, 0)) ∧ ∀ i (h : i < t.length), (∃ lv, cs[i]? = some lv ∧ RowItem (G i) w lv t[i] ∧ NilOk lv) ∧ (t[i] ≠ [] → lo ≤ G i ∧ G i < hi ∧ G i ≠ b) ∧ ∀ j (hj : j < t.length), j ≠ i → t[i] ≠ [] → t[j] ≠ [] → G j ≠ G i)
theorem MkT.arg {lo hi : Nat} {w : World} {v : Value} {t : List (List Itm)} (h : MkT lo hi w v t) : LvsA w v t := by
  obtain ⟨a, cap, rfl, h1, h2, hd⟩ := h
  refine ⟨a, cap, rfl, h1, h2, ?_⟩
  rcases hd with hd | ⟨b, cs, G, rfl, -, -, hb, hx⟩
  · exact .inl hd
  · exact .inr ⟨b, 0, rfl, lt_block hb, fun i hi => by
      obtain ⟨⟨lv, e, hr, -⟩, -⟩ := hx i hi
      exact ⟨lv, by rw [cell_block hb, Nat.zero_add]; exact e, hr.rows⟩⟩
theorem MkT.lvs {lo hi : Nat} {w : World} {v : Value} {t : List (List Itm)} (h : MkT lo hi w v t) : Lvs w v t := by
  obtain ⟨a, cap, rfl, h1, h2, hd⟩ := h
  refine ⟨a, cap, rfl, h1, h2, ?_⟩
  rcases hd with hd | ⟨b, cs, G, rfl, -, -, hb, hx⟩
  · exact .inl hd
  · exact .inr ⟨b, 0, rfl, lt_block hb, fun i hi => by
      obtain ⟨⟨lv, e, hr, hn⟩, -⟩ := hx i hi
      exact ⟨lv, by rw [cell_block hb, Nat.zero_add]; exact e, hr.rows, hn⟩⟩
theorem MkT.mono {lo hi lo' hi' : Nat} {w : World} {v : Value} {t : List (List Itm)} (h : MkT lo hi w v t) (h1 : lo' ≤ lo) (h2 : hi ≤ hi') : MkT lo' hi' w v t := by
  obtain ⟨a, cap, rfl, q1, q2, hd⟩ := h
  refine ⟨a, cap, rfl, q1, q2, ?_⟩
  rcases hd with hd | ⟨b, cs, G, rfl, hb1, hb2, hb, hx⟩
  · exact .inl hd
  · exact .inr ⟨b, cs, G, rfl, by omega, by omega, hb, fun i hi => by
      obtain ⟨r1, r2, r3⟩ := hx i hi
      exact ⟨r1, fun hne => by have := r2 hne; exact ⟨by omega, by omega, this.2.2⟩, r3⟩⟩
theorem MkT.keep {lo hi : Nat} {w w' : World} {v : Value} {t : List (List Itm)} (h : MkT lo hi w v t) (hk : Below w.heap.size w w') : MkT lo hi w' v t := by
  obtain ⟨a, cap, rfl, h1, h2, hd⟩ := h
  refine ⟨a, cap, rfl, h1, h2, ?_⟩
  rcases hd with hd | ⟨b, cs, G, rfl, hb1, hb2, hb, hx⟩
  · exact .inl hd
  · exact .inr ⟨b, cs, G, rfl, hb1, hb2, blk_own hk hb, fun i hi => by
      obtain ⟨⟨lv, e, hr, hn⟩, r2⟩ := hx i hi
      exact ⟨⟨lv, e, hr.keep hk, hn⟩, r2⟩⟩
theorem RowItem.far {g : Nat} {w w' : World} {v : Value} {l : List Itm} (k : RowItem g w v l) (hb : l ≠ [] → w'.heap[g]? = w.heap[g]?) : RowItem g w' v l := by
  obtain ⟨a, cap, hv, h1, h2, h3⟩ := k
  refine ⟨a, cap, hv, h1, h2, ?_⟩
  rcases h3 with h3 | ⟨ha, cs, hk, hs, hc⟩
  · exact .inl h3
  · by_cases hl : l = []
    · exact .inl hl
    · exact .inr ⟨ha, cs, (hb hl).trans hk, hs, hc⟩
theorem RowItem.lt {g : Nat} {w : World} {v : Value} {l : List Itm} (k : RowItem g w v l) (hl : l ≠ []) : g < w.heap.size := by
  obtain ⟨a, cap, hv, h1, h2, h3⟩ := k
  obtain ⟨-, cs, hk, -⟩ := h3.resolve_left hl
  exact lt_block hk
/-- what is changed outside of the blocks leaves the leaves as they are -/
theorem MkT.wi {lo hi l h : Nat} {w w' : World} {v : Value} {t : List (List Itm)} (k : MkT lo hi w v t) (hw : Wi l h w w') (hd : h ≤ lo ∨ hi ≤ l) : MkT lo hi w' v t := by
  obtain ⟨a, cap, rfl, h1, h2, h3⟩ := k
  refine ⟨a, cap, rfl, h1, h2, ?_⟩
  rcases h3 with h3 | ⟨b, cs, G, rfl, hb1, hb2, hb, hx⟩
  · exact .inl h3
  · have hsame : ∀ q, lo ≤ q → q < hi → q < w.heap.size → w'.heap[q]? = w.heap[q]? := fun q q1 q2 q3 => by
      rcases hd with hd | hd
      · exact hw.above q (by omega) q3
      · exact hw.below.block q (by omega)
    refine .inr ⟨b, cs, G, rfl, hb1, hb2, (hsame b hb1 hb2 (lt_block hb)).trans hb, fun i hi => ?_⟩
    obtain ⟨⟨lv, e, hr, hn⟩, r2, r3⟩ := hx i hi
    exact ⟨⟨lv, e, hr.far (fun hl => hsame _ (r2 hl).1 (r2 hl).2.1 (hr.lt hl)), hn⟩, r2, r3⟩
/-- one leaf, and what comes of it when it is written -/
theorem MkT.leaf {lo hi : Nat} {w : World} {v : Value} {t : List (List Itm)} (h : MkT lo hi w v t) (hl : lo ≤ w.heap.size) {k : Nat} (hk : k < t.length) :
    ∃ b lv g, (∃ n c, v = .slice (some ⟨b, 0, none⟩) n c ∧ n = t.length) ∧ b < w.heap.size ∧ w.cell? ⟨b, k, none⟩ = some lv ∧ RowItem g w lv t[k] ∧ (t[k] = [] → g = w.heap.size) ∧
      ∀ w' n, w.grownBy w' (some g) → RowItem g w' lv n → n.length = t[k].length → MkT lo hi w' v (t.set k n) ∧ Wi lo hi w w' := by
  obtain ⟨a, cap, rfl, h1, h2, h3⟩ := h
  obtain ⟨b, cs, G, rfl, hb1, hb2, hb, hx⟩ := h3.resolve_left (by rintro rfl; simp at hk)
  obtain ⟨⟨lv, e, hr, hno⟩, r2, r3⟩ := hx k hk
  by_cases he : t[k] = []
  · refine ⟨b, lv, w.heap.size, ⟨_, _, rfl, rfl⟩, lt_block hb, by rw [cell_block hb]; exact e, ?_, fun _ => rfl, fun w' n hg hn hln => ?_⟩
    · obtain ⟨a', c', h4, h5, h6, -⟩ := hr
      exact ⟨a', c', h4, h5, h6, .inl he⟩
    · have hnn : n = [] := List.length_eq_zero_iff.1 (by rw [hln, he]; rfl)
      have hset : t.set k n = t := by rw [hnn, ← he]; exact List.set_getElem_self hk
      rw [hset]
      have hsame : ∀ q, q < w.heap.size → w'.heap[q]? = w.heap[q]? := fun q hq => hg.block q hq (fun e => by injection e with e; omega)
      refine ⟨⟨_, cap, rfl, h1, h2, .inr ⟨b, cs, G, rfl, hb1, hb2, (hsame b (lt_block hb)).trans hb, fun i hi => ?_⟩⟩, ⟨⟨hg.os, hg.tape, hg.output, hg.size, fun q hq => hsame q (by omega)⟩, fun q _ hq => hsame q hq⟩⟩
      obtain ⟨⟨lv', e', hr', hn'⟩, r2', r3'⟩ := hx i hi
      exact ⟨⟨lv', e', hr'.far (fun hl => hsame _ (hr'.lt hl)), hn'⟩, r2', r3'⟩
  · refine ⟨b, lv, G k, ⟨_, _, rfl, rfl⟩, lt_block hb, by rw [cell_block hb]; exact e, hr, fun h => absurd h he, fun w' n hg hn hln => ⟨⟨_, cap, by rw [List.length_set], by rw [List.length_set]; exact h1, h2, .inr ⟨b, cs, G, rfl, hb1, hb2, ?_, fun i hi => ?_⟩⟩, Wi.of hg (r2 he).1 (r2 he).2.1 hl⟩⟩
    · exact (hg.block b (lt_block hb) (fun e => by injection e with e; exact (r2 he).2.2 e.symm)).trans hb
    · rw [List.length_set] at hi
      have hne : n ≠ [] := fun e => by rw [e] at hln; exact he (List.length_eq_zero_iff.1 hln.symm)
      by_cases hik : i = k
      · subst hik
        simp only [List.getElem_set_self]
        refine ⟨⟨lv, e, hn, hno⟩, fun _ => r2 he, fun j hj hji _ hjn => ?_⟩
        rw [List.length_set] at hj
        rw [List.getElem_set_ne (by omega)] at hjn
        exact r3 j hj hji he hjn
      · rw [List.getElem_set_ne (by omega)]
        obtain ⟨⟨lv', e', hr', hn'⟩, r2', r3'⟩ := hx i hi
        refine ⟨⟨lv', e', hr'.kept hg (fun hl => ?_), hn'⟩, r2', fun j hj hji hin hjn => ?_⟩
        · exact r3 i hi hik he hl
        · rw [List.length_set] at hj
          by_cases hjk : j = k
          · subst hjk
            exact fun q => r3 i (by simpa using hi) hik he hin q.symm
          · rw [List.getElem_set_ne (by omega)] at hjn
            exact r3' j hj hji hin hjn
theorem OwnL.mk {B : Nat} {w : World} {v : Value} {t : List (List Itm)} (h : OwnL B w v t) : MkT B w.heap.size w v t := by
  obtain ⟨xs, ho, hx, ha⟩ := h
  rcases ho.2 with ⟨rfl, h0⟩ | ⟨gr, cap, cur, rfl, hb, hg, h1, h2, h3⟩
  · have hfs : t = [] := List.length_eq_zero_iff.1 h0
    subst hfs
    exact ⟨none, 0, rfl, by simp, by omega, .inl rfl⟩
  · obtain ⟨cur', hcur, hcs, -, -, -, hxl, hxc⟩ := own_at ho
    have hall : ∀ i : Nat, ∃ g : Nat, ∀ hi : i < t.length, ∃ lv, xs[i]? = some lv ∧ RowItem g w lv t[i] ∧ NilOk lv ∧ (t[i] ≠ [] → B ≤ g ∧ lv.ownBlock = some g) := fun i => by
      by_cases hi : i < t.length
      · obtain ⟨lv, e, hl⟩ := hx.own i hi
        rcases hl.2 with ⟨rfl, hn⟩ | ⟨g, cap, cur, rfl, hgB, -⟩
        · have : t[i] = [] := List.length_eq_zero_iff.1 hn
          exact ⟨0, fun _ => ⟨_, e, ⟨none, 0, by rw [this]; rfl, by rw [this]; exact Nat.le_refl _, by omega, .inl this⟩, fun _ _ e => by injection e with _ _ e; exact e.symm, fun h => absurd this h⟩⟩
        · obtain ⟨cur2, hcur2, hcs2, hcm2, hnc2, hB2, hxl2, hx2⟩ := own_at hl
          refine ⟨g, fun _ => ⟨_, e, ⟨_, cap, rfl, hnc2, by unfold maxLen at hcm2; omega, .inr ⟨rfl, cur2, hcur2, by rw [hcs2]; omega, fun i' _ hi' => ?_⟩⟩, nilOk_some, fun _ => ⟨hgB, rfl⟩⟩⟩
          obtain ⟨e0, e1⟩ := itmCells_at t[i] i' hi'
          rw [itmCells_len] at hx2
          exact ⟨by rw [hx2 _ (by omega)]; exact e0, by rw [hx2 _ (by omega)]; exact e1⟩
      · exact ⟨0, fun h => absurd h hi⟩
    obtain ⟨G, hG⟩ := Classical.axiomOfChoice hall
    refine ⟨_, cap, rfl, h1, h2, .inr ⟨gr, cur', G, rfl, hb, lt_block hg, hcur, fun i hi => ?_⟩⟩
    obtain ⟨lv, e, hr, hno, hf⟩ := hG i hi
    refine ⟨⟨lv, by rw [hxc i (by have := hx.len; omega)]; exact e, hr, hno⟩, fun hne => ⟨(hf hne).1, hr.lt hne, fun q => ?_⟩, fun j hj hji hin hjn q => ?_⟩
    · exact ha i lv e (G i) (hf hne).2 (by rw [q]; rfl)
    · obtain ⟨lu, e', -, -, hf'⟩ := hG j hj
      rcases Nat.lt_or_gt_of_ne hji with hlt | hlt
      · exact hx.ap j i lu lv hlt e' e (G j) (hf' hjn).2 (by rw [q]; exact (hf hin).2)
      · exact hx.ap i j lv lu hlt e e' (G i) (hf hin).2 (by rw [← q]; exact (hf' hjn).2)
end Go.Proofs.Ytmlphdniiiijpaa
