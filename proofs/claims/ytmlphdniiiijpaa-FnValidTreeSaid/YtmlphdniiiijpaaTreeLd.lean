/-
  TreeLoad of the program.
-/
import Derived.Test.YtmlphdniiiijpaaTreeV
import Derived.Test.YtmlphdniiiijpaaTreeX
set_option linter.all false
namespace Go.Proofs.Ytmlphdniiiijpaa
open Go.RowKit
def ldK (l : List Itm) (k : Nat) : List (List Itm) := (List.range k).map fun i => (l.drop (loadFrom l.length i)).take (loadSz l.length i)
theorem ldK_s (l : List Itm) (k : Nat) : ldK l (k + 1) = ldK l k ++ [(l.drop (loadFrom l.length k)).take (loadSz l.length k)] := by
  unfold ldK; rw [List.range_succ, List.map_append]; rfl
theorem loadFrom_le (n : Nat) (hn : n ≤ 30) {k : Nat} (hk : k < loadN n) : loadFrom n k + loadSz n k ≤ n ∧ 1 ≤ loadSz n k := by
  have hfr : ∀ d, k + 1 + d ≤ loadN n → loadFrom n (k + 1) ≤ loadFrom n (k + 1 + d) := by
    intro d
    induction d with
    | zero => intro _; exact Nat.le_refl _
    | succ d ih =>
      intro h
      have := ih (by omega)
      have h2 : loadFrom n (k + 1 + (d + 1)) = loadFrom n (k + 1 + d) + loadSz n (k + 1 + d) := rfl
      omega
  obtain ⟨d, hd⟩ : ∃ d, loadN n = k + 1 + d := ⟨loadN n - (k + 1), by omega⟩
  have h1 := hfr d (by omega)
  rw [← hd, loadFrom_end n (by omega)] at h1
  have h2 : loadFrom n (k + 1) = loadFrom n k + loadSz n k := rfl
  have h3 := (loadSz_ok n (by omega) k hk).1
  have h4 : 1 ≤ (if loadN n = 1 then 1 else 2) := by split <;> omega
  omega
set_option maxHeartbeats 16000000 in
set_option maxRecDepth 100000 in
theorem treeLoad_any (v : Value) (l : List Itm) (w : World) (h : Itms w v l) (ho : ordI l) (hl : l.length ≤ 30) :
    Calls Try.prog 16 #[v] w fun e w' => ∃ tv, e = .returned (.tuple #[.agg #[tv], .bool true]) ∧ OwnL w.heap.size w' tv (loadT l) ∧ Below w.heap.size w w' := by
  have HI := hide h
  have HO := hide ho
  obtain ⟨a, cap, rfl, hl1, hcap, -⟩ := h
  have HV := hide (fun z hz => inOrder_any (.slice a l.length cap) l z hz)
  have d30 : decide ((30 : Int) < (l.length : Int)) = false := decide_eq_false (by omega)
  have HZ0 := hide (blk_alloc w (.cells #[.slice none 0 0] 25))
  have HB0 := hide (below_box w (.cells #[.slice none 0 0] 25))
  clear ho
  go_enter Try.func16, Try.ntmps16
  go_wp2_with fail
  refine (HV.out _ (HI.out.keep HB0.out)).mono ?_
  rintro e w1 ⟨q, rfl, hv, hb⟩
  have hq := hv.2 HO.out
  subst hq
  have H1 : Hid (Below w.heap.size w w1) := HB0.out.trans (hb.mono HB0.out.size)
  have HZ1 := hide (blk_own hb HZ0.out)
  clear hb hv HV HB0 HZ0
  have hM : ((l.length : Int) + 4 - 1) / 4 = ((loadN l.length : Nat) : Int) := by unfold loadN; omega
  have HX0 := hide (blk_alloc w1 (.cells #[.slice none 0 0] 25))
  have HZ2 := hide (blk_keep HZ1.out (.cells #[.slice none 0 0] 25))
  have HB2 : Hid (Below w.heap.size w (w1.alloc (.cells #[.slice none 0 0] 25))) := H1.out.alloc H1.out.size _
  have hw1 : w.heap.size < w1.heap.size := lt_block HZ1.out
  have hg1 : w1.heap.size < (w1.alloc (.cells #[.slice none 0 0] 25)).heap.size := by simp
  go_wp2_with fail
  rw [hM]
  clear hM
  obtain ⟨M, hMM⟩ : ∃ M, loadN l.length = M := ⟨_, rfl⟩
  have HMM := hide hMM
  have hM9 : M ≤ 9 := by rw [← hMM]; unfold loadN; omega
  rw [hMM]
  clear hMM
  generalize w1.heap.size = g at *
  go_loopg [6, 24] M (fun gk s6 s24 wr => Below w.heap.size w wr ∧ wr.heap[w.heap.size]? = some (.cells #[.slice none 0 0] 25 (0, 0)) ∧ ∃ k : Nat, k + gk = M ∧ s24 = .int .i64 (k : Int) ∧ ∃ fr : Nat, s6 = .int .i64 (fr : Int) ∧ Hid (fr = loadFrom l.length k) ∧ ∃ tv, wr.heap[g]? = some (.cells #[tv] 25 (0, 0)) ∧ OwnL (g + 1) wr tv (ldK l k))
  case atStart => exact ⟨HB2.out, HZ2.out, 0, by omega, rfl, 0, rfl, hide rfl, _, HX0.out, OwnL.nil _ _⟩
  case round =>
    clear HB2 HZ2 HX0 HZ1
    obtain ⟨hbw, hzw, k, hk, rfl, fr, rfl, hfr, tv, hbx, hown⟩ := hrel
    have HW := hide hbw
    have HZ := hide hzw
    have HX := hide hbx
    have HO := hide hown
    obtain ⟨ta, tc, rfl, -, htc⟩ := ownL_slc hown
    have hgl := lt_block hbx
    have c0 := cell_block hbx 0
    have f0 := froz_block hbx 0
    clear hzw hbx hown
    by_cases hlt : k < M
    · have hfrom := loadFrom_le l.length hl (show k < loadN l.length by rw [HMM.out]; exact hlt)
      have hM1 : (1 : Int) ≤ (M : Int) := by omega
      have hM0 : ¬ ((M : Int) = 0) := by omega
      have hM0' : ((M : Int) == 0) = false := by simp; omega
      have hMn : ¬ M = 0 := by omega
      obtain ⟨D, hD⟩ : ∃ D : Nat, l.length / M = D := ⟨_, rfl⟩
      obtain ⟨R, hR⟩ : ∃ R : Nat, l.length % M = R := ⟨_, rfl⟩
      have hD30 : D ≤ 30 := by rw [← hD]; exact Nat.le_trans (Nat.div_le_self _ _) hl
      have hR30 : R ≤ 30 := by rw [← hR]; have := Nat.mod_lt l.length (show 0 < M by omega); omega
      have hq : (l.length : Int).tdiv (M : Int) = (D : Int) := by rw [← hD]; rfl
      have hr : (l.length : Int).tmod (M : Int) = (R : Int) := by rw [← hR]; rfl
      have hq' : (l.length : Int) / (M : Int) = (D : Int) := by rw [← hD]; rfl
      have hr' : (l.length : Int) % (M : Int) = (R : Int) := by rw [← hR]; rfl
      have HSZ : Hid (loadSz l.length k = D + (if k < R then 1 else 0)) := by unfold Hid loadSz; rw [HMM.out, hD, hR]
      have hfr30 : fr ≤ 30 := by have := hfr.out; omega
      have HFE : Hid (fr + loadSz l.length k ≤ l.length ∧ 1 ≤ loadSz l.length k) := by unfold Hid; rw [hfr.out]; exact hfrom
      clear hD hR hfrom
      obtain ⟨T, hT⟩ : ∃ T, loadSz l.length k = T := ⟨_, rfl⟩
      rw [hT] at HSZ HFE
      have HT := hide hT
      clear hT
      by_cases hkr : k < R
      · have dkr : decide ((k : Int) < (R : Int)) = true := decide_eq_true (by omega)
        have HS : Hid (T = D + 1) := by have := HSZ.out; unfold Hid; simpa [hkr] using this
        have b1 : fr < l.length := by have := HFE.out; omega
        have b2 : fr + (D + 1) ≤ l.length := by have := HFE.out; have := HS.out; omega
        go_wp2_with fail
        obtain ⟨E, hE⟩ : ∃ E, fr + T = E := ⟨_, rfl⟩
        rw [show (fr : Int) + (D : Int) + 1 = (E : Int) by have := HS.out; omega]
        clear hq hr hq' hr' hM1 hM0 hM0' hMn b1 b2 dkr hkr
        obtain ⟨b, off, rfl, hbb, hcell⟩ : ∃ b off, a = some ⟨b, off, none⟩ ∧ b < wr.heap.size ∧ ∀ i (h : i < l.length), ItmAt wr b (off + i * 2) l[i] := by
          obtain ⟨a', c', he, -, -, hd⟩ := HI.out.keep HW.out
          injection he with he _ _
          rcases hd with hd | ⟨b, off, hb1, hb2, hb3⟩
          · have := HFE.out; rw [hd] at this; simp at this; omega
          · exact ⟨b, off, he.trans hb1, hb2, hb3⟩
        have s1 : (fr : Int) ≤ (E : Int) := by omega
        have s2 : (E : Int) ≤ (cap : Int) := by have := HFE.out; omega
        have s1n : fr ≤ E := by omega
        have s2n : E ≤ cap := by have := HFE.out; omega
        have s5 : E - fr = T := by omega
        have s3 : ¬ cap = fr := by have := HFE.out; omega
        have s4 : fr ≤ cap := by have := HFE.out; omega
        obtain ⟨f, hf⟩ : ∃ f, (l.drop fr).take T = f := ⟨_, rfl⟩
        have hfl : f.length = T := by rw [← hf, List.length_take, List.length_drop]; have := HFE.out; omega
        have HIF : Hid (Itms wr (.slice (some ⟨b, off + fr * 2, none⟩) T (cap - fr)) f) := by
          refine ⟨_, cap - fr, by rw [hfl], by rw [hfl]; omega, by omega, .inr ⟨b, off + fr * 2, rfl, hbb, fun i hi => ?_⟩⟩
          rw [hfl] at hi
          have hlf := HFE.out
          have q := hcell (fr + i) (by omega)
          have e : f[i] = l[fr + i]'(by omega) := by simp only [← hf, List.getElem_take, List.getElem_drop]
          rw [e, show off + fr * 2 + i * 2 = off + (fr + i) * 2 by omega]
          exact q
        have HCL := hide (fun z (hz : Below wr.heap.size wr z) => cloneI_any _ f z (HIF.out.keep hz) (by have := HFE.out; omega))
        have HDW : Hid (Below wr.heap.size wr wr.drew) := (Below.refl _ _).drew
        have HF := hide hf
        have HLEN := hide hfl
        clear hcell hf hfl
        have HNX : Hid (ldK l (k + 1) = ldK l k ++ [f]) := by unfold Hid; rw [ldK_s, ← hfr.out, HT.out, HF.out]
        have HFR : Hid (E = loadFrom l.length (k + 1)) := by unfold Hid; rw [← hE, hfr.out, ← HT.out]; rfl
        have HGW : Hid (ldK l k = ldK l k) := rfl
        have hB3 : g + 1 ≤ wr.heap.size := by omega
        have hlk : (ldK l k).length ≤ 100 := by unfold ldK; simp; omega
        obtain ⟨L0, hL0⟩ : ∃ L0, ldK l k = L0 := ⟨_, rfl⟩
        rw [hL0] at HNX HO hlk c0 HX
        clear hL0 HGW HF HT HIF hbw HI hE
        go_region_law (first
          | (go_simp; go_at_call 43; (with_reducible refine (HCL.out _ HDW.out).mono ?_); rintro e w3 ⟨v3, rfl, ho, hb⟩; have HB3 : Hid (Below wr.heap.size wr w3) := HDW.out.trans hb; have HG3 := hide (blk_own HB3.out HX.out); have HZ3 := hide (blk_own HB3.out HZ.out); have hg3 := lt_block HG3.out; have C0 := cell_block HG3.out 0; have CF := froz_block HG3.out 0; have HO3 := hide ho; have AC : ∀ o, (w3.alloc o).cell? ⟨g, 0, none⟩ = some (.slice ta L0.length tc) := (fun o => (cell_alloc (p := ⟨g, 0, none⟩) hg3 o).trans C0); obtain ⟨va3, vc3, rfl, -⟩ := own_slc ho; have HLX := hide (LvsX.one (HO3.out.alloc (.cells #[.slice va3 f.length vc3] 28))); clear ho hb)
          | (refine step_appL _ rfl (.tmp 42) (.tmp 48) rfl (g + 1) wr (.slice ta L0.length tc) L0 (by rfl) HO.out (HB3.out.alloc HB3.out.size (.cells #[.slice va3 f.length vc3] 28)) hB3 (by omega) (.slice (some ⟨w3.heap.size, 0, none⟩) 1 1) [.slice va3 f.length vc3] [f] (by rfl) (.inr ⟨⟨w3.heap.size, 0, none⟩, 1, rfl, World.news_of_block (cs := #[.slice va3 f.length vc3]) (blk_alloc w3 _)⟩) HLX.out (by simp) ?_; intro v4 w4 ho4 hb4; have HG4 := hide ((hb4.block g (by omega)).trans (blk_keep HG3.out _)); have HZ4 := hide ((hb4.block w.heap.size (by omega)).trans (blk_keep HZ3.out _)); have HO4 := hide ho4; have HB4 : Hid (Below w.heap.size wr w4) := (((HB3.out.alloc HB3.out.size (.cells #[.slice va3 f.length vc3] 28))).mono (by omega)).trans (hb4.mono (by omega)); have D0 := cell_block HG4.out 0; have DF := froz_block HG4.out 0; obtain ⟨va4, n4, vc4, rfl⟩ := ownL_any ho4; clear ho4 hb4))
        all_goals
          have HF : Hid (Below w.heap.size w (w4.setCell ⟨g, 0, none⟩ (.slice va4 n4 vc4))) := (HW.out.trans HB4.out).setCell (by simp; omega) _
          have HZF := hide ((Below.heap_setCell w4 ⟨g, 0, none⟩ (.slice va4 n4 vc4) w.heap.size (by simp; omega)).trans HZ4.out)
          have HGF := hide (set_block HG4.out 0 (.slice va4 n4 vc4))
          have HOF := hide (HO4.out.low (k := g) (j := 0) (u := .slice va4 n4 vc4) (by omega))
          clear D0 DF C0 c0 f0 CF AC
          go_wp2_with fail
          go_roundg (gk - 1)
          case measure => omega
          case rel => exact ⟨HF.out, HZF.out, k + 1, by omega, by go_num, E, by go_num, HFR.out, _, HGF.out, by rw [HNX.out]; exact HOF.out⟩
      · have dkr : decide ((k : Int) < (R : Int)) = false := decide_eq_false (by omega)
        have HS : Hid (T = D) := by have := HSZ.out; unfold Hid; simpa [hkr] using this
        have b1 : fr < l.length := by have := HFE.out; omega
        have b2 : fr + D ≤ l.length := by have := HFE.out; have := HS.out; omega
        go_wp2_with fail
        obtain ⟨E, hE⟩ : ∃ E, fr + T = E := ⟨_, rfl⟩
        rw [show (fr : Int) + (D : Int) = (E : Int) by have := HS.out; omega]
        clear hq hr hq' hr' hM1 hM0 hM0' hMn b1 b2 dkr hkr
        obtain ⟨b, off, rfl, hbb, hcell⟩ : ∃ b off, a = some ⟨b, off, none⟩ ∧ b < wr.heap.size ∧ ∀ i (h : i < l.length), ItmAt wr b (off + i * 2) l[i] := by
          obtain ⟨a', c', he, -, -, hd⟩ := HI.out.keep HW.out
          injection he with he _ _
          rcases hd with hd | ⟨b, off, hb1, hb2, hb3⟩
          · have := HFE.out; rw [hd] at this; simp at this; omega
          · exact ⟨b, off, he.trans hb1, hb2, hb3⟩
        have s1 : (fr : Int) ≤ (E : Int) := by omega
        have s2 : (E : Int) ≤ (cap : Int) := by have := HFE.out; omega
        have s1n : fr ≤ E := by omega
        have s2n : E ≤ cap := by have := HFE.out; omega
        have s5 : E - fr = T := by omega
        have s3 : ¬ cap = fr := by have := HFE.out; omega
        have s4 : fr ≤ cap := by have := HFE.out; omega
        obtain ⟨f, hf⟩ : ∃ f, (l.drop fr).take T = f := ⟨_, rfl⟩
        have hfl : f.length = T := by rw [← hf, List.length_take, List.length_drop]; have := HFE.out; omega
        have HIF : Hid (Itms wr (.slice (some ⟨b, off + fr * 2, none⟩) T (cap - fr)) f) := by
          refine ⟨_, cap - fr, by rw [hfl], by rw [hfl]; omega, by omega, .inr ⟨b, off + fr * 2, rfl, hbb, fun i hi => ?_⟩⟩
          rw [hfl] at hi
          have hlf := HFE.out
          have q := hcell (fr + i) (by omega)
          have e : f[i] = l[fr + i]'(by omega) := by simp only [← hf, List.getElem_take, List.getElem_drop]
          rw [e, show off + fr * 2 + i * 2 = off + (fr + i) * 2 by omega]
          exact q
        have HCL := hide (fun z (hz : Below wr.heap.size wr z) => cloneI_any _ f z (HIF.out.keep hz) (by have := HFE.out; omega))
        have HDW : Hid (Below wr.heap.size wr wr.drew) := (Below.refl _ _).drew
        have HF := hide hf
        have HLEN := hide hfl
        clear hcell hf hfl
        have HNX : Hid (ldK l (k + 1) = ldK l k ++ [f]) := by unfold Hid; rw [ldK_s, ← hfr.out, HT.out, HF.out]
        have HFR : Hid (E = loadFrom l.length (k + 1)) := by unfold Hid; rw [← hE, hfr.out, ← HT.out]; rfl
        have HGW : Hid (ldK l k = ldK l k) := rfl
        have hB3 : g + 1 ≤ wr.heap.size := by omega
        have hlk : (ldK l k).length ≤ 100 := by unfold ldK; simp; omega
        obtain ⟨L0, hL0⟩ : ∃ L0, ldK l k = L0 := ⟨_, rfl⟩
        rw [hL0] at HNX HO hlk c0 HX
        clear hL0 HGW HF HT HIF hbw HI hE
        go_region_law (first
          | (go_simp; go_at_call 43; (with_reducible refine (HCL.out _ HDW.out).mono ?_); rintro e w3 ⟨v3, rfl, ho, hb⟩; have HB3 : Hid (Below wr.heap.size wr w3) := HDW.out.trans hb; have HG3 := hide (blk_own HB3.out HX.out); have HZ3 := hide (blk_own HB3.out HZ.out); have hg3 := lt_block HG3.out; have C0 := cell_block HG3.out 0; have CF := froz_block HG3.out 0; have HO3 := hide ho; have AC : ∀ o, (w3.alloc o).cell? ⟨g, 0, none⟩ = some (.slice ta L0.length tc) := (fun o => (cell_alloc (p := ⟨g, 0, none⟩) hg3 o).trans C0); obtain ⟨va3, vc3, rfl, -⟩ := own_slc ho; have HLX := hide (LvsX.one (HO3.out.alloc (.cells #[.slice va3 f.length vc3] 28))); clear ho hb)
          | (refine step_appL _ rfl (.tmp 42) (.tmp 48) rfl (g + 1) wr (.slice ta L0.length tc) L0 (by rfl) HO.out (HB3.out.alloc HB3.out.size (.cells #[.slice va3 f.length vc3] 28)) hB3 (by omega) (.slice (some ⟨w3.heap.size, 0, none⟩) 1 1) [.slice va3 f.length vc3] [f] (by rfl) (.inr ⟨⟨w3.heap.size, 0, none⟩, 1, rfl, World.news_of_block (cs := #[.slice va3 f.length vc3]) (blk_alloc w3 _)⟩) HLX.out (by simp) ?_; intro v4 w4 ho4 hb4; have HG4 := hide ((hb4.block g (by omega)).trans (blk_keep HG3.out _)); have HZ4 := hide ((hb4.block w.heap.size (by omega)).trans (blk_keep HZ3.out _)); have HO4 := hide ho4; have HB4 : Hid (Below w.heap.size wr w4) := (((HB3.out.alloc HB3.out.size (.cells #[.slice va3 f.length vc3] 28))).mono (by omega)).trans (hb4.mono (by omega)); have D0 := cell_block HG4.out 0; have DF := froz_block HG4.out 0; obtain ⟨va4, n4, vc4, rfl⟩ := ownL_any ho4; clear ho4 hb4))
        all_goals
          have HF : Hid (Below w.heap.size w (w4.setCell ⟨g, 0, none⟩ (.slice va4 n4 vc4))) := (HW.out.trans HB4.out).setCell (by simp; omega) _
          have HZF := hide ((Below.heap_setCell w4 ⟨g, 0, none⟩ (.slice va4 n4 vc4) w.heap.size (by simp; omega)).trans HZ4.out)
          have HGF := hide (set_block HG4.out 0 (.slice va4 n4 vc4))
          have HOF := hide (HO4.out.low (k := g) (j := 0) (u := .slice va4 n4 vc4) (by omega))
          clear D0 DF C0 c0 f0 CF AC
          go_wp2_with fail
          go_roundg (gk - 1)
          case measure => omega
          case rel => exact ⟨HF.out, HZF.out, k + 1, by omega, by go_num, E, by go_num, HFR.out, _, HGF.out, by rw [HNX.out]; exact HOF.out⟩
    · have hkl : k = M := by omega
      subst hkl
      have c0' := c0
      obtain ⟨⟨z0⟩, ⟨y0⟩⟩ : (wr.cell? ⟨w.heap.size, 0, none⟩ = some (.slice none 0 0) ∧ True) ∧ (wr.frozen? ⟨w.heap.size, 0, none⟩ = false ∧ True) := ⟨⟨cell_block HZ.out 0, trivial⟩, ⟨froz_block HZ.out 0, trivial⟩⟩
      have S3 := set_block HZ.out 0 (.slice ta (ldK l k).length tc)
      have s0 := cell_block S3 0
      clear hbw
      have HF := hide ((HO.out.low (k := w.heap.size) (j := 0) (u := .slice ta (ldK l k).length tc) (by omega)).mono (B' := w.heap.size) (by omega))
      have HBF : Hid (Below w.heap.size w (wr.setCell ⟨w.heap.size, 0, none⟩ (.slice ta (ldK l k).length tc))) := HW.out.setCell (by simp) _
      have HLD : Hid (ldK l k = loadT l) := by unfold Hid ldK loadT; rw [HMM.out]
      go_wp2_with fail
      all_goals go_tidy
      refine ⟨rfl, .tuple #[.agg #[.slice ta (ldK l k).length tc], .bool true], by simp [results, Try.results16, go_sem, s0], _, rfl, HLD.out ▸ HF.out, HBF.out⟩
end Go.Proofs.Ytmlphdniiiijpaa
