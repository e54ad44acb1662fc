/-
  withLeaves of the specification.
-/
import Derived.Test.YtmlphdniiiijpaaTreeS2
set_option linter.all false
namespace Go.Proofs.Ytmlphdniiiijpaa
open Go.RowKit
def withG (t : List (List Itm)) (p q : Nat) (gs : List (List Itm)) : Nat → List (List Itm)
  | 0 => []
  | k + 1 => withG t p q gs k ++ (if k = p then gs else []) ++ (if k < p ∨ p + q ≤ k then [t.getD k []] else [])
theorem withG_K (t : List (List Itm)) (p q : Nat) (f : List Itm) : ∀ k, withG t p q (divL f) k = withK t p q f k
  | 0 => rfl
  | k + 1 => by rw [withG, withK, withG_K t p q f k]
theorem withG_len (t : List (List Itm)) (p q : Nat) {gs : List (List Itm)} (hg : gs.length ≤ 2) : ∀ k, (withG t p q gs k).length ≤ 3 * k
  | 0 => by simp [withG]
  | k + 1 => by
    have h1 := withG_len t p q hg k
    rw [withG, List.length_append, List.length_append]
    have a : (if k = p then gs else []).length ≤ 2 := by split; exact hg; exact Nat.zero_le _
    have b : (if k < p ∨ p + q ≤ k then [t.getD k []] else []).length ≤ 1 := by split; exact Nat.le_refl 1; exact Nat.zero_le _
    omega
theorem withG_at {t : List (List Itm)} {p q : Nat} {gs : List (List Itm)} (hq : 1 ≤ q) : withG t p q gs (p + 1) = withG t p q gs p ++ gs := by
  rw [withG, if_pos rfl, if_neg (by omega)]; simp
theorem withG_old {t : List (List Itm)} {p q k : Nat} {gs : List (List Itm)} (hk : k < t.length) (h : ¬ k = p) (h2 : k < p ∨ p + q ≤ k) : withG t p q gs (k + 1) = withG t p q gs k ++ [t[k]] := by
  rw [withG, if_neg h, if_pos h2, List.append_nil]
  congr 2
  rw [List.getD_eq_getElem?_getD, List.getElem?_eq_getElem hk]; rfl
theorem withG_gap {t : List (List Itm)} {p q k : Nat} {gs : List (List Itm)} (h : ¬ k = p) (h2 : ¬ (k < p ∨ p + q ≤ k)) : withG t p q gs (k + 1) = withG t p q gs k := by
  rw [withG, if_neg h, if_neg h2]; simp
def LGRet (w : World) (fs : List (List Itm)) (e : Ending) (w' : World) : Prop := ∃ v', e = .returned (.agg #[v']) ∧ OwnR w.heap.size w' v' fs ∧ Below w.heap.size w w'
set_option maxHeartbeats 16000000 in
set_option maxRecDepth 100000 in
theorem withLeaves_any (v : Value) (t : List (List Itm)) (lv : Value) (ys : List Value) (gs : List (List Itm)) (p q : Nat) (w : World) (h : Lvs w v t) (hnw : News w lv ys) (hys : ys.length = gs.length ∧ ∀ i (h : i < gs.length), ∃ lv, ys[i]? = some lv ∧ Itms w lv gs[i] ∧ NilOk lv) (hg2 : gs.length ≤ 2)
    (hq : 1 ≤ q) (hq9 : q ≤ 1000) (ht : t.length ≤ 1000) (hp : p < t.length) (hls : ∀ g ∈ t, g.length ≤ 1000) :
    Calls Try.prog 61 #[.agg #[v], .int .i64 (p : Int), .int .i64 (q : Int), lv] w (LGRet w (withG t p q gs t.length)) := by
  have HNW := hide hnw
  have HYS := hide hys
  obtain ⟨la, ln, lc, rfl⟩ : ∃ a n c, lv = .slice a n c := by
    rcases hnw with ⟨rfl, -⟩ | ⟨ad, cap, rfl, -⟩
    · exact ⟨_, _, _, rfl⟩
    · exact ⟨_, _, _, rfl⟩
  obtain ⟨a, cap, rfl, hl, hcap, hd⟩ := h
  obtain ⟨R, hR⟩ : ∃ R, R = withG t p q gs t.length := ⟨_, rfl⟩
  rw [← hR]
  have HR := hide hR
  clear hR hnw hys
  have HX0 := hide (blk_keep (blk_keep (blk_alloc w (.cells #[.slice a t.length cap] 25)) (.cells #[.slice none 0 0] 25)) (.cells #[] 28))
  have HZ0 := hide (blk_keep (blk_at (W := w.alloc (.cells #[.slice a t.length cap] 25)) (b := w.heap.size + 1) (by simp) (.cells #[.slice none 0 0] 25)) (.cells #[] 28))
  have HB0 := hide ((below_box2 w (.cells #[.slice a t.length cap] 25) (.cells #[.slice none 0 0] 25)).alloc (by simp; omega) (.cells #[] 28))
  have HO0 : Hid (OwnR (w.heap.size + 2) (((w.alloc (.cells #[.slice a t.length cap] 25)).alloc (.cells #[.slice none 0 0] 25)).alloc (.cells #[] 28)) (.slice (some ⟨w.heap.size + 2, 0, none⟩) 0 0) []) := ownR_lit (by simp) (by simp)
  go_enter Try.func61, Try.ntmps61
  go_wp2_with fail
  go_loopg [9, 10] t.length (fun gk s9 s10 wr => Below w.heap.size w wr ∧ wr.heap[w.heap.size]? = some (.cells #[.slice a t.length cap] 25 (0, 0)) ∧ wr.heap[w.heap.size + 1]? = some (.cells #[.slice none 0 0] 25 (0, 0)) ∧ ∃ k : Nat, k + gk = t.length ∧ s10 = .int .i64 (k : Int) ∧ OwnR (w.heap.size + 2) wr s9 (withG t p q gs k))
  case atStart => exact ⟨HB0.out, HX0.out, HZ0.out, 0, by omega, rfl, HO0.out⟩
  case round =>
    clear HB0 HX0 HZ0 HO0
    obtain ⟨hbw, hbx, hbz, k, hk, rfl, hown⟩ := hrel
    have HW := hide hbw
    have HX := hide hbx
    have HZ := hide hbz
    have HO := hide hown
    obtain ⟨ra, rn, rc, rfl⟩ := ownR_any hown
    have hgl := lt_block hbz
    have hgx := lt_block hbx
    have c0 := cell_block hbx 0
    clear hbx hbz hown
    by_cases hlt : k < t.length
    · obtain ⟨b, off, rfl, hbb, hcell⟩ := hd.resolve_left (by rintro rfl; simp at hlt)
      obtain ⟨ov, e0, hov, hnl⟩ := hcell k hlt
      have e0 := (hbw.cell hbb).trans e0
      obtain ⟨oa, oc, rfl⟩ := itms_shape hov
      have hog : t[k].length ≤ 1000 := hls _ (List.getElem_mem hlt)
      have HOI := hide (hov.keep hbw)
      have HNL := hide hnl
      have HOL := hide (fun h1 h2 => withG_old (gs := gs) (p := p) (q := q) hlt h1 h2)
      have hlen := withG_len t p q hg2 k
      have hB2 : w.heap.size + 2 ≤ wr.heap.size := by omega
      have hbb' : b < wr.heap.size := by have := hbw.size; omega
      have HNW2 := hide (HNW.out.keep HW.out)
      have HLR := hide (lfR_low (v := .slice ra rn rc) HYS.out HW.out (fun j hj => by obtain ⟨xs, hr, -⟩ := HO.out; have := (World.ownsRow.lt hr j hj).1; omega))
      clear hcell hd hbw hov hnl
      generalize t[k] = old at *
      obtain ⟨L0, hL0⟩ : ∃ L0, withG t p q gs k = L0 := ⟨_, rfl⟩
      rw [hL0] at HO HOL hlen
      have HL0 := hide hL0
      clear hL0
      by_cases hkp : k = p
      · subst hkp
        have HN : Hid (withG t k q gs (k + 1) = L0 ++ gs) := by unfold Hid; rw [withG_at hq, HL0.out]
        have hkq : ¬ (k : Int) < (k : Int) := by omega
        have hkq2 : ¬ (k : Int) + (q : Int) ≤ (k : Int) := by omega
        clear HOL
        go_wp2_with (at_builtin; refine wpList_appR rfl (.tmp 22) (.tmp 23) rfl (w.heap.size + 2) (.slice ra rn rc) L0 (by rfl) HO.out hB2 (by omega) (.slice la ln lc) ys gs (by rfl) HNW2.out HLR.out (by omega) ?next)
        case next =>
          intro v4 w4 ho4 hb4
          have HO4 := hide ho4
          have H4 : Hid (Below w.heap.size w w4) := HW.out.trans (hb4.mono (by omega))
          have HX4 := hide ((hb4.block w.heap.size (by omega)).trans HX.out)
          have HZ4 := hide ((hb4.block (w.heap.size + 1) (by omega)).trans HZ.out)
          obtain ⟨a4, n4, c4, rfl⟩ := ownR_any ho4
          clear ho4 hb4
          go_wp2_with fail
          go_roundg (gk - 1)
          case measure => omega
          case rel => exact ⟨H4.out, HX4.out, HZ4.out, k + 1, by omega, by go_num, by rw [HN.out]; exact HO4.out⟩
      · have dkp : ((k : Int) == (p : Int)) = false := beq_false_of_ne (by omega)
        by_cases hcase : k < p ∨ p + q ≤ k
        · have HN := hide (HOL.out hkp hcase)
          have hdd : (k : Int) < (p : Int) ∨ (¬ (k : Int) < (p : Int) ∧ (p : Int) + (q : Int) ≤ (k : Int)) := by omega
          have HL1 : Hid ((wr.alloc (.cells #[] 38)).ownsRow wr.heap.size 38 2 (.slice (some ⟨wr.heap.size, 0, none⟩) 0 0) 0 []) := own_lit_at rfl (Nat.le_refl _)
          have HA1 : Hid (Below wr.heap.size wr (wr.alloc (.cells #[] 38))) := below_box wr _
          have A0 := (cell_alloc (p := ⟨w.heap.size, 0, none⟩) hgx (.cells #[] 38)).trans c0
          have A1 := (cell_alloc (p := ⟨b, off + k, none⟩) hbb' (.cells #[] 38)).trans e0
          rcases hdd with hkl | ⟨hkl, hkl2⟩
          all_goals
            clear hcase hkp HLR HNW2 HOL
            go_wp2_with (at_builtin; refine wpList_copyI rfl (.tmp 36) (.tmp 41) rfl wr.heap.size wr.heap.size (by rfl) HL1.out (.slice oa old.length oc) old (by rfl) (HOI.out.keep HA1.out) HNL.out (by omega) (by simp) ?next)
            case next =>
              intro g3 c3 w3 ho3 hg3
              have H3 : Hid (Below wr.heap.size wr w3) := HA1.out.grown hg3 HA1.out.size (fun j hj => by injection hj with hj; omega)
              have HO3 := hide (HO.out.keep (H3.out.trans (below_box w3 (.cells #[.slice (some ⟨g3, 0, none⟩) old.length c3] 28) |>.mono H3.out.size)))
              have hg3' := (World.ownsRow.lt ho3 g3 rfl).1
              have HLF : Hid (LfR (w3.alloc (.cells #[.slice (some ⟨g3, 0, none⟩) old.length c3] 28)) (.slice ra rn rc) [.slice (some ⟨g3, 0, none⟩) old.length c3] [old]) := lfR_one (ho3.itms.keep (below_box w3 _)) nilOk_some (fun _ a n c e q => by
                injection e with e
                injection e with e
                subst e
                obtain ⟨xs, hr, -⟩ := HO.out
                have := (World.ownsRow.lt hr _ q).2
                simp only at this
                omega)
              have hw3 := H3.out.size
              clear ho3 hg3 A0 A1 HL1 HA1
              go_wp2_with (at_builtin; refine wpList_appR rfl (.tmp 35) (.tmp 43) rfl (w.heap.size + 2) (.slice ra rn rc) L0 (by rfl) HO3.out (by simp; omega) (by omega) (.slice (some ⟨w3.heap.size, 0, none⟩) 1 1) [.slice (some ⟨g3, 0, none⟩) old.length c3] [old] (by rfl) (.inr ⟨⟨w3.heap.size, 0, none⟩, 1, rfl, World.news_of_block (cs := #[.slice (some ⟨g3, 0, none⟩) old.length c3]) (blk_alloc w3 _)⟩) HLF.out (by simp) ?next2)
              case next2 =>
                intro v4 w4 ho4 hb4
                have HO4 := hide ho4
                have HB3 : Hid (Below wr.heap.size wr (w3.alloc (.cells #[.slice (some ⟨g3, 0, none⟩) old.length c3] 28))) := H3.out.alloc H3.out.size _
                have H4 : Hid (Below w.heap.size w w4) := (HW.out.trans (HB3.out.mono HW.out.size)).trans (hb4.mono (by omega))
                have HX4 := hide ((hb4.block w.heap.size (by omega)).trans (blk_own HB3.out HX.out))
                have HZ4 := hide ((hb4.block (w.heap.size + 1) (by omega)).trans (blk_own HB3.out HZ.out))
                obtain ⟨a4, n4, c4, rfl⟩ := ownR_any ho4
                clear ho4 hb4
                go_wp2_with fail
                go_roundg (gk - 1)
                case measure => omega
                case rel => exact ⟨H4.out, HX4.out, HZ4.out, k + 1, by omega, by go_num, by rw [HN.out]; exact HO4.out⟩
        · have HN := hide (withG_gap (t := t) (gs := gs) hkp hcase)
          have hkl : ¬ (k : Int) < (p : Int) := by omega
          have hkl2 : ¬ (p : Int) + (q : Int) ≤ (k : Int) := by omega
          clear hcase hkp HOL HLR HNW2
          go_wp2_with fail
          go_roundg (gk - 1)
          case measure => omega
          case rel => exact ⟨HW.out, HX.out, HZ.out, k + 1, by omega, by go_num, by rw [HN.out, HL0.out]; exact HO.out⟩
    · have hkl : k = t.length := by omega
      subst hkl
      clear hd hbw hcap hl
      rw [← HR.out] at HO
      obtain ⟨z0, y0⟩ : wr.cell? ⟨w.heap.size + 1, 0, none⟩ = some (.slice none 0 0) ∧ wr.frozen? ⟨w.heap.size + 1, 0, none⟩ = false := ⟨cell_block HZ.out 0, froz_block HZ.out 0⟩
      have S1 := hide (set_block HZ.out 0 (.slice ra rn rc))
      have s1 := cell_block S1.out 0
      have HF : Hid (Below w.heap.size w (wr.setCell ⟨w.heap.size + 1, 0, none⟩ (.slice ra rn rc))) := HW.out.setCell (by simp) _
      have HOF : Hid (OwnR w.heap.size (wr.setCell ⟨w.heap.size + 1, 0, none⟩ (.slice ra rn rc)) (.slice ra rn rc) R) := (HO.out.boxT HZ.out).mono (by omega)
      go_wp2_with fail
      all_goals go_tidy
      refine ⟨rfl, .agg #[.slice ra rn rc], by simp [results, Try.results61, go_sem, s1], _, rfl, HOF.out, HF.out⟩
theorem itms_newsA {w : World} {b off n c : Nat} {l : List Itm} (h : Itms w (.slice (some ⟨b, off, none⟩) n c) l) : ∀ j u, (itmCells l)[j]? = some u → w.cell? ((⟨b, off, none⟩ : Addr).add j) = some u := by
  obtain ⟨a, cap, he, -, -, hd⟩ := h
  injection he with he _ _
  subst he
  intro j u hu
  rcases hd with rfl | ⟨b', off', he, -, hc⟩
  · simp [itmCells] at hu
  · injection he with he
    injection he with e1 e2 _
    subst e1; subst e2
    rw [Addr.add_lit]; exact itms_news hc j u hu
section
variable (w : World)
/-- append of some items to an empty literal, as a step of a region that draws its order -/
theorem step_copyI {ops : Array Oper} {o : Oper} {a : Act} {K : Act → World → Prop} {Q : Exit → Act → World → Prop} {E : Prop} (hgd : o.guard = none) (s x : Operand)
    (ho : o.op = .call { callee := .builtin .append, args := #[s, x], argTypes := #[28, 28] })
    (B g : Nat) (hs : a.eval s = .slice (some ⟨g, 0, none⟩) 0 0) (hlit : w.heap[g]? = some (.cells #[] 38 (0, 0))) (hBg : B ≤ g)
    (ad : Addr) (l : List Itm) (cap : Nat) (hx : a.eval x = .slice (some ad) l.length cap) (hnews : ∀ j u, (itmCells l)[j]? = some u → w.cell? (ad.add j) = some u) (hpos : 0 < l.length) (hn : l.length ≤ 1048576) (hB : B ≤ w.heap.size)
    (hK : ∀ g' cap' w', OwnI B w' (.slice (some ⟨g', 0, none⟩) l.length cap') l → w.grownBy w' (some g) → (g' = g ∨ g' = w.heap.size) → K (a.put o.dst (.slice (some ⟨g', 0, none⟩) l.length cap')) w') :
    if Region.wanted o (yielded ops a.tmps) = true then Oper.wp Try.prog o a w K Q else E := by
  obtain ⟨i0, hi, hz0, hz1, hz2⟩ := info_parts infoI
  have hown : w.ownsRow B 38 2 (.slice (some ⟨g, 0, none⟩) 0 0) 0 [] := own_of hBg hlit (by rfl) (by unfold maxLen; omega) (Nat.le_refl _) (by rfl) (fun j hj => by simp at hj)
  refine step_append_lies w hgd s x 28 ho B 38 i0 _ 2 16 Try.underlying28 hi hz0 hz1 hz2 rfl (by decide) _ 0 [] hs hown ad l.length cap (itmCells l) hx (itmCells_len l) hnews (itmCells_one l) hpos (by unfold maxLen; omega) (by omega) hB _ rfl ?_
  intro g' cap' w' h1 h2 h3 _
  rw [Nat.zero_add, List.nil_append] at h1
  rw [Nat.zero_add]
  exact hK g' cap' w' h1 h2 (h3.imp (fun h => by injection h with h; exact h.symm) id)
end
end Go.Proofs.Ytmlphdniiiijpaa
