/-
  AddEntry of the program.
-/
import Derived.Test.YteikeljklfblmaaSetSt2
import Derived.Deep.RegionHeld3
import Derived.RegionCalls
import Derived.Deep.RegionWith
import Derived.Deep.RegionLaw
import Derived.Deep.DeepCutAuto
set_option linter.all false
namespace Go.Proofs.Yteikeljklfblmaa
open Go.RowKit
theorem blk_drew' {W : World} {b : Nat} {o : Obj} (h : W.heap[b]? = some o) : W.drew.heap[b]? = some o := h
def addOk (l : List Ent) (e : Ent) : Bool := catB l && catB (l ++ [e])
def addR (l : List Ent) (e : Ent) : List Ent := if addOk l e then l ++ [e] else []
theorem addR_len (l : List Ent) (e : Ent) : (addR l e).length ≤ l.length + 1 := by unfold addR; split <;> simp
theorem addR_sizes {l : List Ent} {x : Ent} (h : ∀ e ∈ l, e.n.size ≤ 9223372036854775807 ∧ e.t.size ≤ 9223372036854775807) (hx : x.n.size ≤ 9223372036854775807 ∧ x.t.size ≤ 9223372036854775807) : ∀ e ∈ addR l x, e.n.size ≤ 9223372036854775807 ∧ e.t.size ≤ 9223372036854775807 := by
  unfold addR; split
  · intro e he
    rcases List.mem_append.1 he with he | he
    · exact h e he
    · simp at he; subst he; exact hx
  · simp
theorem app_sizes {l : List Ent} {x : Ent} (h : ∀ e ∈ l, e.n.size ≤ 9223372036854775807 ∧ e.t.size ≤ 9223372036854775807) (hx : x.n.size ≤ 9223372036854775807 ∧ x.t.size ≤ 9223372036854775807) : ∀ e ∈ l ++ [x], e.n.size ≤ 9223372036854775807 ∧ e.t.size ≤ 9223372036854775807 := by
  intro e he
  rcases List.mem_append.1 he with he | he
  · exact h e he
  · simp at he; subst he; exact hx
theorem OwnE.ents {B : Nat} {w : World} {v : Value} {l : List Ent} (h : OwnE B w v l) (hz : ∀ e ∈ l, e.n.size ≤ 9223372036854775807 ∧ e.t.size ≤ 9223372036854775807) : Ents w v l := by
  obtain ⟨g, -, -, hr⟩ := h.row
  exact hr.ents hz
theorem OwnE.keep {B : Nat} {w w' : World} {v : Value} {l : List Ent} (h : OwnE B w v l) (hb : Below w.heap.size w w') : OwnE B w' v l := by
  refine World.ownsRow.kept h (grown_below hb none) ?_
  cases hv : v.ownBlock <;> simp
set_option maxHeartbeats 4000000 in
theorem iAddEntry_any (x : Ent) (v : Value) (l : List Ent) (w : World) (h : Ents w v l) (hx : x.n.size ≤ 9223372036854775807 ∧ x.t.size ≤ 9223372036854775807) :
    Calls Try.prog 29 #[v, .agg #[.string x.n, .string x.t, .int .i64 x.s]] w (CatRet w (addOk l x) (addR l x)) := by
  have HZ := hide (app_sizes h.sizes hx)
  have HE := hide (h.keep ((Below.refl w.heap.size w).alloc (Nat.le_refl _) (.cells #[.string x.n, .string x.t, .int .i64 x.s] 27)))
  have HA := hide ((Below.refl w.heap.size w).alloc (Nat.le_refl _) (.cells #[.string x.n, .string x.t, .int .i64 x.s] 27))
  have HB := hide (blk_alloc w (.cells #[.string x.n, .string x.t, .int .i64 x.s] 27))
  clear h
  obtain ⟨ok, hok⟩ : ∃ ok, addOk l x = ok := ⟨_, rfl⟩
  obtain ⟨R, hR⟩ : ∃ R, R = if ok then l ++ [x] else [] := ⟨_, rfl⟩
  rw [addR, hok, ← hR]
  have HR0 := hide hR
  clear hR
  by_cases hcat : catB l = true
  · have hlen : l.length ≤ 12 := (of_decide_eq_true hcat).1
    rw [addOk, hcat, Bool.true_and] at hok
    have HOK := hide hok
    have HC := hide hcat
    clear hok hcat
    obtain ⟨i0, hi, hz0, hz1, hz2⟩ := info_parts infoE
    go_enter Try.func29, Try.ntmps29
    go_wp2_with fail
    refine (ivalidCatalog_any v l _ HE.out).mono ?_
    rintro e w1 ⟨rfl, hb1⟩
    rw [HC.out]
    have E1 := hide (HE.out.keep hb1)
    have B1 := hide (blk_own hb1 HB.out)
    have H1 : Hid (Below w.heap.size w w1) := HA.out.trans (hb1.mono HA.out.size)
    have hw1 : w.heap.size < w1.heap.size := lt_block B1.out
    clear hb1
    obtain ⟨⟨c0, c1, c2⟩, -⟩ := cells3 B1.out
    go_upto_region 3 with fail
    go_cut [6] (fun s6 wx => ∃ g6 cap6, s6 = .slice (some ⟨g6, 0, none⟩) (l.length + 1) cap6 ∧ OwnE w.heap.size wx (.slice (some ⟨g6, 0, none⟩) (l.length + 1) cap6) (l ++ [x]) ∧ Below w.heap.size w wx)
    case first =>
      go_region_law (first
        | (go_simp; go_at_call 52; refine (clone_any v l _ (by first | exact E1.out.keep (Below.refl _ _).drew | exact E1.out.keep ((Below.refl _ _).drew.alloc (Nat.le_refl _) _)) (by omega)).mono ?_; rintro e w3 ⟨v3, rfl, ho3, hb3⟩; (first | (have HL3 := hide (World.news_of_block (cs := #[.string x.n, .string x.t, .int .i64 x.s]) (blk_own hb3 (blk_alloc w1.drew _)))) | skip); (have D3 := hide (blk_own hb3 (by first | exact blk_drew' B1.out | exact blk_keep (blk_drew' B1.out) _))); obtain ⟨⟨d0, d1, d2⟩, -⟩ := cells3 D3.out; have HB3 : Hid (Below w1.heap.size w1 w3) := (by first | exact (Below.refl _ _).drew.trans hb3 | exact ((Below.refl _ _).drew.alloc (Nat.le_refl _) _).trans (hb3.mono (by simp))); have HO3 : Hid (OwnE w1.heap.size w3 v3 l) := own_mono ho3 (by simp); clear ho3 hb3)
        | (refine step_append_lies _ rfl (.tmp 11) (.tmp 13) 23 rfl w1.heap.size 27 i0 _ 3 40 Try.underlying23 hi hz0 hz1 hz2 rfl (by decide) _ _ _ (by rfl) (by first | exact HO3.out | exact World.ownsRow.alloc HO3.out _) ⟨_, 0, none⟩ 1 1 [.string x.n, .string x.t, .int .i64 x.s] (by rfl) (by rfl) (by first | exact HL3.out | exact World.news_of_block (cs := #[.string x.n, .string x.t, .int .i64 x.s]) (blk_at (by simp) _)) (by intro u hu; simp at hu; rcases hu with rfl | rfl | rfl <;> rfl) (by decide) (by unfold maxLen; omega) (by omega) (by have := HB3.out.size; simp at this ⊢; omega) _ rfl ?_; intro g4 cap4 w4 ho4 hg4 hat4 hlt4))
      all_goals
        have HN : Hid (OwnE w.heap.size w4 (.slice (some ⟨g4, 0, none⟩) (l.length + 1) cap4) (l ++ [x])) := by
          unfold OwnE Hid
          rw [entCells_app, List.length_append]
          exact own_mono ho4 (by omega)
        have HM : Hid (Below w1.heap.size w1 w4) := by first | exact HB3.out.grown hg4 HB3.out.size (fun q hq => (HO3.out.lt q hq).1) | exact (HB3.out.alloc HB3.out.size _).grown hg4 (by have := HB3.out.size; simp; omega) (fun q hq => (HO3.out.lt q hq).1)
        clear ho4 hg4 hat4
        go_wp2_with fail
        go_meet
        exact ⟨_, _, rfl, HN.out, H1.out.trans (HM.out.mono H1.out.size)⟩
    case rest =>
      obtain ⟨g6, cap6, rfl, ho6, hb6⟩ := hcut
      have HN := hide ho6
      have H6 := hide hb6
      clear ho6 hb6
      go_wp2_with fail
      refine (ivalidCatalog_any _ (l ++ [x]) _ (HN.out.ents HZ.out)).mono ?_
      rintro e w7 ⟨rfl, hb7⟩
      rw [HOK.out]
      have HN7 := hide (HN.out.keep hb7)
      have H7 : Hid (Below w.heap.size w w7) := H6.out.trans (hb7.mono H6.out.size)
      clear hb7
      cases ok with
      | false =>
        go_wp2_with fail
        all_goals go_tidy
        refine ⟨rfl, .tuple #[.slice none 0 0, .bool false], by simp [results, Try.results29, go_sem], (HR0.out ▸ catRet_no H7.out)⟩
      | true =>
        go_wp2_with fail
        all_goals go_tidy
        refine ⟨rfl, .tuple #[.slice (some ⟨g6, 0, none⟩) (l.length + 1) cap6, .bool true], by simp [results, Try.results29, go_sem], ⟨_, rfl, ?_, H7.out⟩⟩
        rw [HR0.out]
        first
        | exact HN7.out
        | (rw [if_pos rfl]; exact HN7.out)
        | (rw [if_pos trivial]; exact HN7.out)
  · have hcat' : catB l = false := by simpa using hcat
    have hok' : ok = false := by rw [← hok, addOk, hcat']; rfl
    subst hok'
    clear hok
    go_enter Try.func29, Try.ntmps29
    go_wp2_with fail
    refine (ivalidCatalog_any v l _ HE.out).mono ?_
    rintro e w1 ⟨rfl, hb1⟩
    rw [hcat']
    have H1 : Hid (Below w.heap.size w w1) := HA.out.trans (hb1.mono HA.out.size)
    clear hb1
    go_wp2_with fail
    all_goals go_tidy
    refine ⟨rfl, .tuple #[.slice none 0 0, .bool false], by simp [results, Try.results29, go_sem], (HR0.out ▸ catRet_no H1.out)⟩
end Go.Proofs.Yteikeljklfblmaa
