/-
  toItemSS, and the laws' functions at trees.
-/
import Derived.Test.YtmlphdniiiijpaaTreeMk2
set_option linter.all false
namespace Go.Proofs.Ytmlphdniiiijpaa
open Go.RowKit
def PreMk (B : Nat) (w : World) (cs : Array Value) (t : List (List Itm)) (k : Nat) : Prop := ∃ G : Nat → Nat, ∀ i (h : i < t.length), i < k → (∃ lv, cs[i]? = some lv ∧ RowItem (G i) w lv t[i] ∧ NilOk lv) ∧ B < G i ∧ G i < w.heap.size ∧ ∀ j, j < i → G j < G i
theorem PreMk.zero (B : Nat) (w : World) (cs : Array Value) (t : List (List Itm)) : PreMk B w cs t 0 := ⟨fun _ => 0, fun i _ h => by omega⟩
theorem PreMk.step {B g : Nat} {w w' : World} {cs : Array Value} {t : List (List Itm)} {k : Nat} {lv : Value} (h : PreMk B w cs t k) (hk : k < t.length) (hs : cs.size = t.length) (hb : Below w.heap.size w w') (hr : RowItem g w' lv t[k]) (hn : NilOk lv) (hg : w.heap.size ≤ g) (hg2 : g < w'.heap.size) (hB : B < w.heap.size) : PreMk B w' (cs.setIfInBounds k lv) t (k + 1) := by
  obtain ⟨G, hG⟩ := h
  refine ⟨fun i => if i = k then g else G i, fun i hi hik => ?_⟩
  by_cases c : i = k
  · subst c
    simp only [if_true]
    refine ⟨⟨lv, by rw [Array.getElem?_setIfInBounds_self_of_lt (by omega)], hr, hn⟩, by omega, hg2, fun j hj => ?_⟩
    rw [if_neg (by omega)]
    have := (hG j (by omega) hj).2.2.1
    omega
  · simp only [if_neg c]
    obtain ⟨⟨lu, e, r1, r2⟩, q1, q2, q3⟩ := hG i hi (by omega)
    refine ⟨⟨lu, by rw [Array.getElem?_setIfInBounds_ne (by omega)]; exact e, r1.keep hb, r2⟩, q1, Nat.lt_of_lt_of_le q2 hb.size, fun j hj => ?_⟩
    rw [if_neg (by omega)]
    exact q3 j hj
theorem PreMk.set {B o : Nat} {w : World} {cs : Array Value} {t : List (List Itm)} {k : Nat} {u : Value} (h : PreMk B w cs t k) : PreMk B (w.setCell ⟨B, o, none⟩ u) cs t k := by
  obtain ⟨G, hG⟩ := h
  refine ⟨G, fun i hi hik => ?_⟩
  obtain ⟨⟨lu, e, r1, r2⟩, q1, q2, q3⟩ := hG i hi hik
  exact ⟨⟨lu, e, r1.far (fun _ => Below.heap_setCell w ⟨B, o, none⟩ u (G i) (by show G i ≠ B; omega)), r2⟩, q1, by simp [World.setCell]; exact q2, q3⟩
theorem PreMk.mk {B : Nat} {w : World} {cs : Array Value} {t : List (List Itm)} (h : PreMk B w cs t t.length) (hb : w.heap[B]? = some (.cells cs 28 (0, 0))) (hn : t.length ≤ 9223372036854775807) : MkT B w.heap.size w (.slice (some ⟨B, 0, none⟩) t.length t.length) t ∧ Lvs w (.slice (some ⟨B, 0, none⟩) t.length t.length) t := by
  obtain ⟨G, hG⟩ := h
  refine ⟨⟨_, _, rfl, Nat.le_refl _, hn, .inr ⟨B, cs, G, rfl, Nat.le_refl _, lt_block hb, hb, fun i hi => ?_⟩⟩, ⟨_, _, rfl, Nat.le_refl _, hn, .inr ⟨B, 0, rfl, lt_block hb, fun i hi => ?_⟩⟩⟩
  · obtain ⟨⟨lu, e, r1, r2⟩, q1, q2, q3⟩ := hG i hi hi
    refine ⟨⟨lu, e, r1, r2⟩, fun _ => ⟨by omega, q2, by omega⟩, fun j hj hji _ _ => ?_⟩
    rcases Nat.lt_or_gt_of_ne hji with hlt | hlt
    · have := q3 j hlt; omega
    · have := (hG j hj hj).2.2.2 i hlt; omega
  · obtain ⟨⟨lu, e, r1, r2⟩, -⟩ := hG i hi hi
    exact ⟨lu, by rw [cell_block hb, Nat.zero_add]; exact e, r1.rows, r2⟩
def ToRet (w : World) (t : List (List Itm)) (v' : Value) (w' : World) : Prop := MkT w.heap.size w'.heap.size w' v' t ∧ Below w.heap.size w w'
set_option maxHeartbeats 8000000 in
theorem toItemSS_any (v : Value) (t : List (List Itm)) (w : World) (h : LvsA w v t) (ht : t.length ≤ 1048576) (hn : (flatT t).length ≤ 1048576) :
    Calls Try.prog 63 #[v] w fun e w' => ∃ v', e = .returned v' ∧ ToRet w t v' w' := by
  obtain ⟨a, cap, rfl, hl, hcap, hd⟩ := h
  obtain ⟨i0, hi, hz0, hz1, hz2⟩ := info_parts infoLvs
  obtain ⟨cs0, hcs0, hmk⟩ : ∃ cs0 : Array Value, cs0.size = t.length ∧ ∀ W : World, (Instr.makeSlice 23 (.int .i64 (t.length : Int)) (.int .i64 (t.length : Int))).run Try.prog W = .ok (.slice (some ⟨W.heap.size, 0, none⟩) t.length t.length) (W.alloc (.cells cs0 28)) :=
    ⟨madeCells (Value.cells (.slice none 0 0)) (t.length * i0.size), by rw [size_madeCells, hz1]; omega, fun W => run_make_rowN _ _ i0 _ Try.underlying23 hi hz0 .i64 .i64 t.length t.length (Nat.le_refl _) (by rw [hz2]; omega) (by omega) W⟩
  have HC0 := hide hcs0
  clear hcs0 hi hz0 hz1 hz2
  go_enter Try.func63, Try.ntmps63
  go_wp2_with fail
  clear hmk
  go_loopg [4] t.length (fun gk s4 wr => Below w.heap.size w wr ∧ ∃ (k : Nat) (cs : Array Value), k + gk = t.length ∧ s4 = .int .i64 (k : Int) ∧ cs.size = t.length ∧ wr.heap[w.heap.size]? = some (.cells cs 28 (0, 0)) ∧ PreMk w.heap.size wr cs t k)
  case atStart => exact ⟨(Below.refl _ _).alloc (Nat.le_refl _) _, 0, cs0, by omega, rfl, HC0.out, blk_alloc w _, PreMk.zero _ _ _ _⟩
  case round =>
    obtain ⟨hbw, k, cs, hk, rfl, hsz, hblk, hpre⟩ := hrel
    have HW := hide hbw
    have HB := hide hblk
    have HP := hide hpre
    have HZ := hide hsz
    have hbs := lt_block hblk
    clear hblk hpre hsz HC0
    by_cases hlt : k < t.length
    · obtain ⟨b, off, rfl, hbb, hcell⟩ := hd.resolve_left (by rintro rfl; simp at hlt)
      obtain ⟨lv, e0, hlv⟩ := hcell k hlt
      have e0 := (hbw.cell hbb).trans e0
      have hll := leaf_len hlt
      have HT := hide (toItemS_any lv t[k] wr (hlv.keep hbw) (by omega))
      obtain ⟨la, lc, rfl⟩ := itms_shape hlv
      have HST := hide (fun (w' : World) (g : Nat) (u : Value) (hb : Below wr.heap.size wr w') (hr : RowItem g w' u t[k]) (hn : NilOk u) (h1 : wr.heap.size ≤ g) (h2 : g < w'.heap.size) => HP.out.step hlt HZ.out hb hr hn h1 h2 hbs)
      clear hcell hd hbw hlv hll HP
      generalize t[k] = f at *
      go_wp2_with fail
      refine HT.out.mono ?_
      rintro e w1 ⟨_, rfl, hv, hb, g, cap1, cs1, rfl, hg1, hc1⟩
      have B1 := hide (blk_own hb HB.out)
      have H1 : Hid (Below w.heap.size w w1) := HW.out.trans (hb.mono HW.out.size)
      have HP1 := hide ((HST.out w1 g _ hb (RowItem.new hv hc1) nilOk_some hg1 (lt_block hc1)).set (o := k) (u := .slice (some ⟨g, 0, none⟩) f.length cap1))
      clear hb hv hg1 hc1 HT HST
      have x0 : ∃ u, w1.cell? ⟨w.heap.size, k, none⟩ = some u := ⟨_, by rw [cell_block B1.out]; exact Array.getElem?_eq_getElem (by rw [HZ.out]; omega)⟩
      obtain ⟨u0, x0⟩ := x0
      have f0 := froz_block B1.out k
      go_wp2_with fail
      go_roundg (gk - 1)
      case measure => omega
      case rel => exact ⟨H1.out.setCell (by simp) _, k + 1, _, by omega, by go_num, by simp [HZ.out], set_block B1.out _ _, HP1.out⟩
    · have hkl : k = t.length := by omega
      subst hkl
      have HV := hide (HP.out.mk HB.out (by omega))
      clear hd hbw
      go_wp2_with fail
      go_ret
      exact ⟨_, rfl, HV.out.1, HW.out⟩
theorem szTree_any (v : Value) (t : List (List Itm)) (left : Int) (w : World) (h : LvsA w v t) (h0 : 0 ≤ left) (h1 : left ≤ 1048576) :
    Calls Try.prog 29 #[.agg #[v], .int .i64 left] w (SzRet w left (t.length + (flatT t).length)) := by
  have H0 := hide (below_box w (.cells #[v] 47))
  have HS := hide (szItemSS_any v t left _ (h.keep H0.out) h0 h1)
  obtain ⟨a, cap, rfl, -⟩ := h
  go_enter Try.func29, Try.ntmps29
  go_wp2_with fail
  refine HS.out.mono ?_
  rintro e w2 ⟨r, rfl, q0, q1, q2, hb⟩
  have H2 : Hid (Below w.heap.size w w2) := H0.out.trans (hb.mono H0.out.size)
  have HQ := hide q2
  clear hb q2 HS
  by_cases hr : r < 0
  · go_wp2_with fail
    go_ret
    exact ⟨-1, rfl, by omega, by omega, .inl (by omega), H2.out⟩
  · go_wp2_with fail
    go_ret
    exact ⟨r, rfl, q0, q1, HQ.out, H2.out⟩
def ToTRet (w : World) (t : List (List Itm)) (e : Ending) (w' : World) : Prop := ∃ v', e = .returned (.agg #[v']) ∧ ToRet w t v' w'
set_option maxHeartbeats 4000000 in
theorem toTree_any (v : Value) (t : List (List Itm)) (w : World) (h : LvsA w v t) (ht : t.length ≤ 1048576) (hn : (flatT t).length ≤ 1048576) :
    Calls Try.prog 30 #[.agg #[v]] w (ToTRet w t) := by
  have H0 := hide ((below_box2 w (.cells #[v] 47) (.cells #[.slice none 0 0] 25)).alloc (by simp; omega) (.cells #[.slice none 0 0] 25))
  have HS := hide (toItemSS_any v t _ (h.keep H0.out) ht hn)
  have HZ0 := hide (blk_keep (blk_at (W := w.alloc (.cells #[v] 47)) (b := w.heap.size + 1) (by simp) (.cells #[.slice none 0 0] 25)) (.cells #[.slice none 0 0] 25))
  have HG0 := hide (blk_at (W := (w.alloc (.cells #[v] 47)).alloc (.cells #[.slice none 0 0] 25)) (b := w.heap.size + 2) (by simp) (.cells #[.slice none 0 0] 25))
  obtain ⟨a, cap, rfl, -⟩ := h
  go_enter Try.func30, Try.ntmps30
  go_wp2_with fail
  refine HS.out.mono ?_
  rintro e w2 ⟨v2, rfl, hm, hb⟩
  have H2 : Hid (Below w.heap.size w w2) := H0.out.trans (hb.mono H0.out.size)
  have HZ := hide (blk_own hb HZ0.out)
  have HG := hide (blk_own hb HG0.out)
  have hsz : w.heap.size + 3 ≤ (((w.alloc (.cells #[.slice a t.length cap] 47)).alloc (.cells #[.slice none 0 0] 25)).alloc (.cells #[.slice none 0 0] 25)).heap.size := by simp
  have HM := hide (hm.mono hsz (Nat.le_refl _))
  have hsh : ∃ a n c, v2 = .slice a n c := by obtain ⟨a, c, e, -⟩ := hm; exact ⟨a, _, c, e⟩
  obtain ⟨a2, n2, c2, rfl⟩ := hsh
  clear hb hm HS HZ0 HG0 H0 hsz
  have z0 := cell_block HZ.out 0
  have zf := froz_block HZ.out 0
  have g0 := cell_block HG.out 0
  have gf := froz_block HG.out 0
  have S1 := hide (set_block HG.out 0 (.slice a2 n2 c2))
  have HZ1 := hide ((Below.heap_setCell w2 ⟨w.heap.size + 2, 0, none⟩ (.slice a2 n2 c2) (w.heap.size + 1) (by show w.heap.size + 1 ≠ w.heap.size + 2; omega)).trans HZ.out)
  have hbs := lt_block HG.out
  have W1 : Hid (Wi w.heap.size (w.heap.size + 3) w2 (w2.setCell ⟨w.heap.size + 2, 0, none⟩ (.slice a2 n2 c2))) := Wi.of (grown_setCell _ _ _ _) (by omega) (by omega) (by omega)
  have W2 : Hid (Wi w.heap.size (w.heap.size + 3) (w2.setCell ⟨w.heap.size + 2, 0, none⟩ (.slice a2 n2 c2)) ((w2.setCell ⟨w.heap.size + 2, 0, none⟩ (.slice a2 n2 c2)).setCell ⟨w.heap.size + 1, 0, none⟩ (.slice a2 n2 c2))) := Wi.of (grown_setCell _ _ _ _) (by omega) (by omega) (by simp [World.setCell]; omega)
  have S2 := hide (set_block HZ1.out 0 (.slice a2 n2 c2))
  have s5 := cell_block S2.out 0
  have s6 := cell_block S1.out 0
  have z1 := cell_block HZ1.out 0
  have zf1 := froz_block HZ1.out 0
  have HF := hide ((HM.out.wi W1.out (.inl (Nat.le_refl _))).wi W2.out (.inl (Nat.le_refl _)))
  have HFS : Hid (((w2.setCell ⟨w.heap.size + 2, 0, none⟩ (.slice a2 n2 c2)).setCell ⟨w.heap.size + 1, 0, none⟩ (.slice a2 n2 c2)).heap.size = w2.heap.size) := by unfold Hid; simp [World.setCell]
  have HB := hide (H2.out.trans ((W1.out.trans W2.out).below))
  go_wp2_with fail
  all_goals go_tidy
  refine ⟨rfl, .agg #[.slice a2 n2 c2], by simp [results, Try.results30, go_sem, s5], _, rfl, HF.out.mono (by omega) (by rw [HFS.out]; exact Nat.le_refl _), HB.out⟩
theorem eqTree_same (v v' : Value) (t : List (List Itm)) (w : World) (h : LvsA w v t) (h' : LvsA w v' t) :
    Calls Try.prog 32 #[.agg #[v], .agg #[v']] w fun e w' => e = .returned (.bool true) ∧ Below w.heap.size w w' := by
  have H0 := hide (below_box2 w (.cells #[v] 25) (.cells #[v'] 25))
  have HS := hide (eqItemSS_same v v' t _ (h.keep H0.out) (h'.keep H0.out))
  obtain ⟨a, cap, rfl, -⟩ := h
  obtain ⟨a', cap', rfl, -⟩ := h'
  go_enter Try.func32, Try.ntmps32
  go_wp2_with fail
  refine HS.out.mono ?_
  rintro e w2 ⟨rfl, hb⟩
  have H2 : Hid (Below w.heap.size w w2) := H0.out.trans (hb.mono H0.out.size)
  clear hb HS
  go_wp2_with fail
  go_ret
  exact ⟨rfl, H2.out⟩
theorem markTree_mk (lo hi m : Nat) (v : Value) (t : List (List Itm)) (w : World) (h : MkT lo hi w v t) (hhi : hi ≤ w.heap.size) (hl : lo ≤ w.heap.size) (h0 : 1 ≤ m) (h1 : m + 2 * (flatT t).length ≤ 9000000) :
    Calls Try.prog 33 #[.agg #[v], .int .i64 (m : Int)] w (MarkTRet w lo hi m v t) := by
  have H0 := hide (below_box w (.cells #[v] 25))
  have HS := hide (markItemSS_mk lo hi m v t _ (h.keep H0.out) (Nat.le_trans hl H0.out.size) h0 h1)
  obtain ⟨a, cap, rfl, -⟩ := h
  go_enter Try.func33, Try.ntmps33
  go_wp2_with fail
  refine HS.out.mono ?_
  rintro e w2 ⟨rfl, hm, hw⟩
  have HM := hide hm
  have HW : Hid (Wi lo hi w w2) := (⟨H0.out.mono hl, fun b _ hb => H0.out.block b hb⟩ : Wi lo hi w _).trans hw
  clear hm hw HS
  go_wp2_with fail
  go_ret
  exact ⟨rfl, HM.out, HW.out⟩
theorem heldTree_mk (lo hi m : Nat) (v : Value) (t : List (List Itm)) (w : World) (h : MkT lo hi w v (mixK m t t.length)) (hl : lo ≤ w.heap.size) (h0 : 1 ≤ m) (h1 : m + 2 * (flatT t).length ≤ 9000000) :
    Calls Try.prog 34 #[.agg #[v], .int .i64 (m : Int)] w (fun e w' => e = .returned (.int .i64 ((m + 2 * (flatT t).length : Nat) : Int)) ∧ Below w.heap.size w w') := by
  have H0 := hide (below_box w (.cells #[v] 25))
  have HS := hide (heldItemSS_mk lo hi m v t _ (h.keep H0.out) (Nat.le_trans hl H0.out.size) h0 h1)
  obtain ⟨a, cap, rfl, -⟩ := h
  obtain ⟨S, hS⟩ : ∃ S, m + 2 * (flatT t).length = S := ⟨_, rfl⟩
  rw [hS] at HS ⊢
  clear hS
  go_enter Try.func34, Try.ntmps34
  go_wp2_with fail
  refine HS.out.mono ?_
  rintro e w2 ⟨rfl, hb⟩
  have H2 : Hid (Below w.heap.size w w2) := H0.out.trans (hb.mono H0.out.size)
  clear hb HS
  go_wp2_with fail
  go_ret
  exact ⟨rfl, H2.out⟩
end Go.Proofs.Ytmlphdniiiijpaa
