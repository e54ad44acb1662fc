/-
  TreeLoad of the program at any items; TreeLoad of the specification.
-/
import Derived.Test.YtmlphdniiiijpaaTreeLd
import Derived.Test.YtmlphdniiiijpaaTreeSL
set_option linter.all false
namespace Go.Proofs.Ytmlphdniiiijpaa
open Go.RowKit
def ldOk (l : List Itm) : Prop := ordI l ∧ l.length ≤ 30
set_option maxHeartbeats 8000000 in
theorem treeLoad_all (v : Value) (l : List Itm) (w : World) (h : Itms w v l) :
    Calls Try.prog 16 #[v] w (ChRet w (ldOk l) (loadT l)) := by
  by_cases hok : ldOk l
  · refine (treeLoad_any v l w h hok.1 hok.2).mono ?_
    rintro e w' ⟨tv, rfl, ho, hb⟩
    exact chRet_yes hok ho hb
  · have HNO := hide hok
    have HI := hide h
    obtain ⟨a, cap, rfl, hl1, hcap, -⟩ := h
    have HV := hide (fun z hz => inOrder_any (.slice a l.length cap) l z hz)
    have HZ0 := hide (blk_alloc w (.cells #[.slice none 0 0] 25))
    have HB0 := hide (below_box w (.cells #[.slice none 0 0] 25))
    by_cases h30 : (30 : Int) < (l.length : Int)
    · have hbs := lt_block HZ0.out
      have s3 := cell_block HZ0.out 0
      have s4 := froz_block HZ0.out 0
      have HF : Hid (Below w.heap.size w ((w.alloc (.cells #[.slice none 0 0] 25)).setCell ⟨w.heap.size, 0, none⟩ (.slice none 0 0))) := HB0.out.setCell (Nat.le_refl _) _
      have S3 := hide (set_block HZ0.out 0 (.slice none 0 0))
      have s5 := cell_block S3.out 0
      clear hok
      go_enter Try.func16, Try.ntmps16
      go_wp2_with fail
      all_goals go_tidy
      refine ⟨rfl, .tuple #[.agg #[.slice none 0 0], .bool false], by simp [results, Try.results16, go_sem, s5], chRet_no HNO.out (by first | exact HF.out | exact HB0.out)⟩
    · have hord : Hid (¬ ordI l) := fun h => HNO.out ⟨h, by omega⟩
      clear hok
      go_enter Try.func16, Try.ntmps16
      go_wp2_with fail
      refine (HV.out _ (HI.out.keep HB0.out)).mono ?_
      rintro e w1 ⟨q, rfl, hv, hb⟩
      obtain rfl : q = false := by
        cases q with
        | false => rfl
        | true => exact absurd (hv.1 rfl) hord.out
      have H1 : Hid (Below w.heap.size w w1) := HB0.out.trans (hb.mono HB0.out.size)
      have HR := hide (blk_own hb HZ0.out)
      clear hb hv HV HB0 HZ0
      have hbs := lt_block HR.out
      have s3 := cell_block HR.out 0
      have s4 := froz_block HR.out 0
      have HF : Hid (Below w.heap.size w (w1.setCell ⟨w.heap.size, 0, none⟩ (.slice none 0 0))) := H1.out.setCell (Nat.le_refl _) _
      have S3 := hide (set_block HR.out 0 (.slice none 0 0))
      have s5 := cell_block S3.out 0
      go_wp2_with fail
      all_goals go_tidy
      refine ⟨rfl, .tuple #[.agg #[.slice none 0 0], .bool false], by simp [results, Try.results16, go_sem, s5], chRet_no HNO.out HF.out⟩
set_option maxHeartbeats 16000000 in
set_option maxRecDepth 100000 in
theorem streeLoad_any (v : Value) (l : List Itm) (w : World) (h : Itms w v l) :
    Calls Try.prog 23 #[v] w (SChRet w (ldOk l) (loadT l)) := by
  have HI := hide h
  obtain ⟨a, cap, rfl, hl1, hcap, -⟩ := h
  have HV := hide (fun z hz => svalidItems_any (.slice a l.length cap) l z hz)
  have HZ0 := hide (blk_keep (blk_alloc w (.cells #[.slice none 0 0] 25)) (.cells #[] 28))
  have HB0 := hide (below_box2 w (.cells #[.slice none 0 0] 25) (.cells #[] 28))
  have HO0 : Hid (OwnR (w.heap.size + 1) ((w.alloc (.cells #[.slice none 0 0] 25)).alloc (.cells #[] 28)) (.slice (some ⟨w.heap.size + 1, 0, none⟩) 0 0) []) := ownR_lit (by simp) (by simp)
  go_enter Try.func23, Try.ntmps23
  go_wp2_with fail
  refine (HV.out _ (HI.out.keep HB0.out)).mono ?_
  rintro e w1 ⟨q, rfl, hv, hb⟩
  have H1 : Hid (Below w.heap.size w w1) := HB0.out.trans (hb.mono HB0.out.size)
  have HR := hide (blk_own hb HZ0.out)
  have HO1 := hide (HO0.out.keep hb)
  have HVV := hide hv
  clear hb hv HV HB0 HZ0 HO0
  have hbs := lt_block HR.out
  have s3 := cell_block HR.out 0
  have s4 := froz_block HR.out 0
  cases q with
  | false =>
    have HNO : Hid (¬ ldOk l) := fun h => by have := HVV.out.2 h; cases this
    have HF : Hid (Below w.heap.size w (w1.setCell ⟨w.heap.size, 0, none⟩ (.slice none 0 0))) := H1.out.setCell (Nat.le_refl _) _
    have S3 := hide (set_block HR.out 0 (.slice none 0 0))
    have s5 := cell_block S3.out 0
    go_wp2_with fail
    all_goals go_tidy
    refine ⟨rfl, .tuple #[.agg #[.slice none 0 0], .bool false], by simp [results, Try.results23, go_sem, s5], schRet_no HNO.out HF.out⟩
  | true =>
    have HOK : Hid (ldOk l) := HVV.out.1 rfl
    have hl : l.length ≤ 30 := HOK.out.2
    have hM : ((l.length : Int) + 4 - 1) / 4 = ((loadN l.length : Nat) : Int) := by unfold loadN; omega
    clear HVV s3 s4
    go_wp2_with fail
    rw [hM]
    clear hM
    obtain ⟨M, hMM⟩ : ∃ M, loadN l.length = M := ⟨_, rfl⟩
    have HMM := hide hMM
    have hM9 : M ≤ 9 := by rw [← hMM]; unfold loadN; omega
    rw [hMM]
    clear hMM
    go_loopg [4, 6, 7] M (fun gk s4 s6 s7 wr => Below w.heap.size w wr ∧ wr.heap[w.heap.size]? = some (.cells #[.slice none 0 0] 25 (0, 0)) ∧ ∃ k : Nat, k + gk = M ∧ s7 = .int .i64 (k : Int) ∧ ∃ fr : Nat, s6 = .int .i64 (fr : Int) ∧ Hid (fr = loadFrom l.length k) ∧ OwnR (w.heap.size + 1) wr s4 (ldK l k))
    case atStart => exact ⟨H1.out, HR.out, 0, by omega, rfl, 0, rfl, hide rfl, HO1.out⟩
    case round =>
      clear H1 HR HO1 hbs
      obtain ⟨hbw, hzw, k, hk, rfl, fr, rfl, hfr, hown⟩ := hrel
      have HW := hide hbw
      have HZ := hide hzw
      have HO := hide hown
      obtain ⟨ra, rn, rc, rfl⟩ := ownR_any hown
      have hgl := lt_block hzw
      clear hzw hown
      by_cases hlt : k < M
      · have hfrom := loadFrom_le l.length hl (show k < loadN l.length by rw [HMM.out]; exact hlt)
        have hM1 : (1 : Int) ≤ (M : Int) := by omega
        have hM0 : ¬ ((M : Int) = 0) := by omega
        have hM0' : ((M : Int) == 0) = false := by simp; omega
        have hMn : ¬ M = 0 := by omega
        obtain ⟨D, hD⟩ : ∃ D : Nat, l.length / M = D := ⟨_, rfl⟩
        obtain ⟨R, hR⟩ : ∃ R : Nat, l.length % M = R := ⟨_, rfl⟩
        have hD30 : D ≤ 30 := by rw [← hD]; exact Nat.le_trans (Nat.div_le_self _ _) hl
        have hR30 : R ≤ 30 := by rw [← hR]; have := Nat.mod_lt l.length (show 0 < M by omega); omega
        have hq : (l.length : Int).tdiv (M : Int) = (D : Int) := by rw [← hD]; rfl
        have hr : (l.length : Int).tmod (M : Int) = (R : Int) := by rw [← hR]; rfl
        have hq' : (l.length : Int) / (M : Int) = (D : Int) := by rw [← hD]; rfl
        have hr' : (l.length : Int) % (M : Int) = (R : Int) := by rw [← hR]; rfl
        have HSZ : Hid (loadSz l.length k = D + (if k < R then 1 else 0)) := by unfold Hid loadSz; rw [HMM.out, hD, hR]
        have hfr30 : fr ≤ 30 := by have := hfr.out; omega
        have HFE : Hid (fr + loadSz l.length k ≤ l.length ∧ 1 ≤ loadSz l.length k) := by unfold Hid; rw [hfr.out]; exact hfrom
        clear hD hR hfrom
        obtain ⟨T, hT⟩ : ∃ T, loadSz l.length k = T := ⟨_, rfl⟩
        rw [hT] at HSZ HFE
        have HT := hide hT
        clear hT
        have HSEL : ∃ T' : Nat, Hid (T' = T) ∧ ((k : Int) < (R : Int) ∧ (D : Int) + 1 = (T' : Int) ∨ ¬ (k : Int) < (R : Int) ∧ (D : Int) = (T' : Int)) := by
          by_cases hkr : k < R
          · exact ⟨T, rfl, .inl ⟨by omega, by have := HSZ.out; simp [hkr] at this; omega⟩⟩
          · exact ⟨T, rfl, .inr ⟨by omega, by have := HSZ.out; simp [hkr] at this; omega⟩⟩
        obtain ⟨T', hT', hsel⟩ := HSEL
        have hT'' : T' = T := hT'.out
        subst hT''
        have hTl : fr + T' ≤ l.length ∧ 1 ≤ T' := HFE.out
        obtain ⟨E, hE⟩ : ∃ E, fr + T' = E := ⟨_, rfl⟩
        have hEi : (fr : Int) + (T' : Int) = (E : Int) := by omega
        obtain ⟨b, off, he, hIF⟩ := itms_part (i := fr) (m := T') (HI.out.keep HW.out) hTl.1 (by omega)
        subst he
        obtain ⟨f, hf⟩ : ∃ f, (l.drop fr).take T' = f := ⟨_, rfl⟩
        have hfl : f.length = T' := by rw [← hf, List.length_take, List.length_drop]; omega
        rw [hf] at hIF
        have HIF := hide hIF
        have HNX : Hid (ldK l (k + 1) = ldK l k ++ [f]) := by unfold Hid; rw [ldK_s, ← hfr.out, HT.out, hf]
        have HFR : Hid (E = loadFrom l.length (k + 1)) := by unfold Hid; rw [← hE, hfr.out, ← HT.out]; rfl
        have hB3 : w.heap.size + 1 ≤ wr.heap.size := by omega
        have hlk : (ldK l k).length ≤ 100 := by unfold ldK; simp; omega
        have s1 : (fr : Int) ≤ (E : Int) := by omega
        have s2 : (E : Int) ≤ (cap : Int) := by omega
        have s1n : fr ≤ E := by omega
        have s2n : E ≤ cap := by omega
        have s3 : ¬ cap = fr := by omega
        have s4 : fr ≤ cap := by omega
        have s5 : E - fr = T' := by omega
        have hE30 : E ≤ 30 := by omega
        have hT30 : T' ≤ 30 := by omega
        obtain ⟨L0, hL0⟩ : ∃ L0, ldK l k = L0 := ⟨_, rfl⟩
        rw [hL0] at HNX HO hlk
        have HLIT : Hid ((wr.alloc (.cells #[] 38)).ownsRow wr.heap.size 38 2 (.slice (some ⟨wr.heap.size, 0, none⟩) 0 0) 0 []) := own_lit_at rfl (Nat.le_refl _)
        have HA1 : Hid (Below wr.heap.size wr (wr.alloc (.cells #[] 38))) := below_box wr _
        have HFLN := hide hfl
        clear hL0 hf hbw HI HFE hE hTl hIF HSZ hT' hfl
        rcases hsel with ⟨dkr, hTD⟩ | ⟨dkr, hTD⟩
        all_goals
          go_wp2_with (at_builtin; refine wpList_copyI rfl (.tmp 37) (.tmp 43) rfl wr.heap.size wr.heap.size (by rfl) HLIT.out (.slice (some ⟨b, off + fr * 2, none⟩) T' (cap - fr)) f (by rfl) (HIF.out.keep HA1.out) nilOk_some (by rw [HFLN.out]; omega) (by simp) ?next)
          case next =>
            intro g3 c3 w3 ho3 hg3
            have H3 : Hid (Below wr.heap.size wr w3) := HA1.out.grown hg3 HA1.out.size (fun j hj => by injection hj with hj; omega)
            have HO3 := hide (HO.out.keep (H3.out.trans (below_box w3 (.cells #[.slice (some ⟨g3, 0, none⟩) f.length c3] 28) |>.mono H3.out.size)))
            have hg3' := (World.ownsRow.lt ho3 g3 rfl).1
            have HLF : Hid (LfR (w3.alloc (.cells #[.slice (some ⟨g3, 0, none⟩) f.length c3] 28)) (.slice ra rn rc) [.slice (some ⟨g3, 0, none⟩) f.length c3] [f]) := lfR_one (ho3.itms.keep (below_box w3 _)) nilOk_some (fun _ a n c e q => by
              injection e with e
              injection e with e
              subst e
              obtain ⟨xs, hr, -⟩ := HO.out
              have := (World.ownsRow.lt hr _ q).2
              simp only at this
              omega)
            have hw3 := H3.out.size
            clear ho3 hg3 HLIT HA1
            go_wp2_with (at_builtin; refine wpList_appR rfl (.tmp 36) (.tmp 45) rfl (w.heap.size + 1) (.slice ra rn rc) L0 (by rfl) HO3.out (by simp; omega) (by omega) (.slice (some ⟨w3.heap.size, 0, none⟩) 1 1) [.slice (some ⟨g3, 0, none⟩) f.length c3] [f] (by rfl) (.inr ⟨⟨w3.heap.size, 0, none⟩, 1, rfl, World.news_of_block (cs := #[.slice (some ⟨g3, 0, none⟩) f.length c3]) (blk_alloc w3 _)⟩) HLF.out (by simp) ?next2)
            case next2 =>
              intro v4 w4 ho4 hb4
              have HO4 := hide ho4
              have HB3 : Hid (Below wr.heap.size wr (w3.alloc (.cells #[.slice (some ⟨g3, 0, none⟩) f.length c3] 28))) := H3.out.alloc H3.out.size _
              have H4 : Hid (Below w.heap.size w w4) := (HW.out.trans (HB3.out.mono HW.out.size)).trans (hb4.mono (by omega))
              have HZ4 := hide ((hb4.block w.heap.size (by omega)).trans (blk_own HB3.out HZ.out))
              obtain ⟨a4, n4, c4, rfl⟩ := ownR_any ho4
              clear ho4 hb4
              go_wp2_with fail
              go_roundg (gk - 1)
              case measure => omega
              case rel => exact ⟨H4.out, HZ4.out, k + 1, by omega, by go_num, E, by go_num, HFR.out, by rw [HNX.out]; exact HO4.out⟩
      · have hkl : k = M := by omega
        subst hkl
        clear hbw
        obtain ⟨z0, y0⟩ : wr.cell? ⟨w.heap.size, 0, none⟩ = some (.slice none 0 0) ∧ wr.frozen? ⟨w.heap.size, 0, none⟩ = false := ⟨cell_block HZ.out 0, froz_block HZ.out 0⟩
        have S1 := hide (set_block HZ.out 0 (.slice ra rn rc))
        have s1 := cell_block S1.out 0
        have HF : Hid (Below w.heap.size w (wr.setCell ⟨w.heap.size, 0, none⟩ (.slice ra rn rc))) := HW.out.setCell (Nat.le_refl _) _
        have HLD : Hid (ldK l k = loadT l) := by unfold Hid ldK loadT; rw [HMM.out]
        have HOF : Hid (OwnR w.heap.size (wr.setCell ⟨w.heap.size, 0, none⟩ (.slice ra rn rc)) (.slice ra rn rc) (loadT l)) := by rw [← HLD.out]; exact (HO.out.boxT HZ.out).mono (by omega)
        go_wp2_with fail
        all_goals go_tidy
        refine ⟨rfl, .tuple #[.agg #[.slice ra rn rc], .bool true], by simp [results, Try.results23, go_sem, s1], schRet_yes HOK.out HOF.out HF.out⟩
end Go.Proofs.Ytmlphdniiiijpaa
