/-
  formats, ChainOf and validChain of the specification.
-/
import Derived.Test.YtdijcdadcbhipaaDoorFPl4
set_option linter.all false
namespace Go.Proofs.YtdijcdadcbhipaaDoor
open Go.RowKit
theorem CRet.if {w w' : World} {f : List RCol} {c : RChg} {e : Ending} (h : CRet w (if posB f c then some (newC f c) else none) e w') (hf : fmtB f = true) : CRet w (chC f c) e w' := by rw [chC_eq hf]; exact h
/-- the formats of a chain so far -/
def FmtsOk (L : List (List RCol)) : Prop := ∀ (k : Nat) (h : k < L.length), fmtB L[k] = true ∧ ∀ x ∈ L[k], okC x
theorem FmtsOk.one {f : List RCol} (h : fmtB f = true) (ho : ∀ x ∈ f, okC x) : FmtsOk [f] := fun k hk => by
  have : k = 0 := by simpa using hk
  subst this; exact ⟨h, ho⟩
theorem FmtsOk.snoc {L : List (List RCol)} {k : Nat} {c : RChg} {g : List RCol} (h : FmtsOk L) (hk : k < L.length) (hc : okC c.c) (hg : chC L[k] c = some g) : FmtsOk (L ++ [g]) := by
  obtain ⟨q1, q2, rfl⟩ := chC_some hg
  intro j hj
  by_cases hjl : j < L.length
  · rw [List.getElem_append_left hjl]; exact h j hjl
  · have e : j = L.length := by simp at hj; omega
    subst e
    simp only [List.getElem_append_right (Nat.le_refl _), Nat.sub_self, List.getElem_cons_zero]
    exact ⟨fmt_new q1 q2, ok_newC (h k hk).2 q1 hc q2⟩
set_option maxHeartbeats 16000000 in
set_option maxRecDepth 100000 in
theorem sformats_any (v u : Value) (f : List RCol) (cs : List RChg) (w : World) (h : Recs cEnc 4 w v f) (h' : Recs hEnc 6 w u cs) (hfm : fmtB f = true) (hok : ∀ x ∈ f, okC x) (hoc : ∀ c ∈ cs, okH c) (h8 : cs.length ≤ 8) :
    Calls Tryd.prog 67 #[v, u] w (LRet w (cs.foldl chStep (some [f]))) := by
  obtain ⟨R, hR⟩ : ∃ R, R = cs.foldl chStep (some [f]) := ⟨_, rfl⟩
  rw [← hR]
  have HOC := hide hoc
  have HG0 := hide (FmtsOk.one hfm hok)
  have HF := hide h
  obtain ⟨a, cap, rfl, hl, hcap⟩ := h.shape
  obtain ⟨a2, cap2, rfl, hl2, hcap2, -, hd⟩ := h'
  clear h
  have HR := hide hR
  have hf5 := (fmt_len2 hfm).2.1
  clear hR hfm hok hoc
  go_enter Tryd.func67, Tryd.ntmps67
  go_wp2_with fail
  with_reducible refine (scopyC_any _ f _ HF.out (by omega)).mono ?_
  rintro e w2 ⟨v2, rfl, ho2, hb2⟩
  obtain ⟨a2x, c2x, rfl, -, -⟩ := own_slc ho2
  have H2 := hide hb2
  have L2 : Hid (OwnL w.heap.size (w2.alloc (.cells #[.slice a2x f.length c2x] 23)) (.slice (some ⟨w2.heap.size, 0, none⟩) 1 1) [f]) := ownL_one ho2 H2.out.size
  have H2a : Hid (Below w.heap.size w (w2.alloc (.cells #[.slice a2x f.length c2x] 23))) := H2.out.alloc H2.out.size _
  clear hb2 ho2
  go_wp2_with fail
  go_loopg [6, 7] cs.length (fun gk s6 s7 wr => Below w.heap.size w wr ∧ ∃ (k : Nat) (L : List (List RCol)), k + gk = cs.length ∧ s7 = .int .i64 (k : Int) ∧ L.length = k + 1 ∧ (cs.take k).foldl chStep (some [f]) = some L ∧ OwnL w.heap.size wr s6 L ∧ FmtsOk L)
  case atStart => exact ⟨H2a.out, 0, [f], by omega, rfl, rfl, rfl, L2.out, HG0.out⟩
  case round =>
    clear L2 H2a H2 HG0
    obtain ⟨hbw, k, L, hk, rfl, hLl, hfold, hown, hgood⟩ := hrel
    have HW := hide hbw
    have HL := hide hLl
    have HFO := hide hfold
    have HOW := hide hown
    have HGD := hide hgood
    obtain ⟨aL, cL, rfl, hcL1, hcL2⟩ := ownL_slc hown
    clear hfold hown hgood
    by_cases hlt : k < cs.length
    · obtain ⟨b, off, rfl, hbb, hcell⟩ := hd.resolve_left (by rintro rfl; simp at hlt)
      have e := at6 (fun j u hu => (hbw.cell (p := ⟨b, _, none⟩) hbb).trans (hcell k hlt j u hu))
      have hkL : k < L.length := by omega
      have HOK : Hid (okC cs[k].c) := HOC.out _ (List.getElem_mem hlt)
      have HGK := hide (HGD.out k hkL)
      have HSN := hide (fun g => HGD.out.snoc (g := g) hkL HOK.out)
      have HST : Hid (cs.foldl chStep (some [f]) = (cs.drop (k + 1)).foldl chStep ((chC L[k] cs[k]).map fun n => L ++ [n])) := by unfold Hid; rw [fold_split cs k hlt, HFO.out, chStep_at hLl]
      have HTK : Hid ((cs.take (k + 1)).foldl chStep (some [f]) = (chC L[k] cs[k]).map fun n => L ++ [n]) := by unfold Hid; rw [fold_take cs k hlt, HFO.out, chStep_at hLl]
      have hLv := HOW.out.lvs
      obtain ⟨lv, lcell, lrec, -⟩ : ∃ lv, (∀ W, Below wr.heap.size wr W → ∃ bL oL, aL = some ⟨bL, oL, none⟩ ∧ W.cell? ⟨bL, oL + k, none⟩ = some lv) ∧ Recs cEnc 4 wr lv L[k] ∧ True := by
        obtain ⟨a', cap', hv', -, -, hd'⟩ := hLv
        obtain ⟨bL, oL, he, hbL, hcL⟩ := hd'.resolve_left (by rintro rfl; simp at hkL)
        injection hv' with q1 q2 q3
        obtain ⟨lv, l1, l2, -⟩ := hcL k hkL
        exact ⟨lv, fun W hW => ⟨bL, oL, by rw [q1, he], (hW.cell (p := ⟨bL, oL + k, none⟩) hbL).trans l1⟩, l2, trivial⟩
      have HLR := hide lrec
      obtain ⟨bL, oL, rfl, lc0⟩ := lcell wr (Below.refl _ _)
      obtain ⟨gL, hgL⟩ : ∃ gL, L[k] = gL := ⟨_, rfl⟩
      obtain ⟨c, hc⟩ : ∃ c, cs[k] = c := ⟨_, rfl⟩
      rw [hgL] at HLR HST HTK HGK HSN
      rw [hc] at e HST HTK HOK HSN
      obtain ⟨e0, e1, e2, e3, e4, e5⟩ := e
      obtain ⟨al, cl, rfl, -, -⟩ := lrec.shape
      have hgl := fmt_len2 HGK.out.1
      have HIC := hide (fun (W : World) (h : Recs cEnc 4 W (.slice al L[k].length cl) gL) => schange_any c (.slice al L[k].length cl) gL W h HOK.out (fmt_good HGK.out.1 HGK.out.2) hgl.1 (by have := hgl.2.1; omega))
      have HCC := hide (fun (W : World) (hW : Below wr.heap.size wr W) => (HIC.out W (HLR.out.keep hW)).mono fun e w' hq => CRet.trans hW (CRet.if hq HGK.out.1))
      have ZR := hide (Below.refl wr.heap.size wr)
      clear hd hcell hbw hLv lrec lcell hLl hgl hc HIC
      have HGL := hide hgL
      clear hgL
      cases hR1 : chC gL c with
      | none =>
        rw [hR1] at HST HTK
        have HRN : Hid (R = none) := by unfold Hid; rw [HR.out, HST.out]; simp only [Option.map_none]; exact fold_none _
        have HR1 := hide hR1
        clear hR1
        go_upto_region 5 with fail
        go_region_law (first
          | (go_simp; go_at_call 60; (with_reducible refine (HCC.out _ (by first | exact ZR.out | exact ZR.out.drew)).mono ?_); rintro e z1 hq; (obtain ⟨rfl, hz1⟩ := hq.no HR1.out); (have Z1 := hide hz1); clear hz1 hq)
          | fail)
        all_goals
          have H9 := hide (HW.out.trans (Z1.out.mono HW.out.size))
          clear e0 e1 e2 e3 e4 e5 lc0
          go_wp2_with fail
          all_goals go_tidy
          exact ⟨rfl, .tuple #[.slice none 0 0, .bool false], by simp [results, Tryd.results67, go_sem], H9.out, by rw [HRN.out]⟩
      | some gn =>
        rw [hR1] at HST HTK
        have HTK1 : Hid ((cs.take (k + 1)).foldl chStep (some [f]) = some (L ++ [gn])) := by unfold Hid; rw [HTK.out]; rfl
        have HSN1 : Hid (FmtsOk (L ++ [gn])) := HSN.out gn hR1
        have HR1 := hide hR1
        clear hR1 HSN
        go_upto_region 5 with fail
        go_region_law (first
          | (go_simp; go_at_call 60; (with_reducible refine (HCC.out _ (by first | exact ZR.out | exact ZR.out.drew)).mono ?_); rintro e z1 hq; (obtain ⟨v9, rfl, ho9, hz1⟩ := hq.yes HR1.out); (obtain ⟨a9, c9, rfl, -, -⟩ := own_slc ho9); (have Z1 := hide hz1); (have O9 : Hid (OwnC wr.heap.size z1 (.slice a9 gn.length c9) gn) := ho9); clear hz1 ho9 hq)
          | fail)
        all_goals
          have Z2 : Hid (Below wr.heap.size wr (z1.alloc (.cells #[.slice a9 gn.length c9] 23))) := Z1.out.alloc Z1.out.size _
          have X2 := hide (LvsX.one (OwnR.alloc O9.out (.cells #[.slice a9 gn.length c9] 23)))
          have N2 : Hid (News (z1.alloc (.cells #[.slice a9 gn.length c9] 23)) (.slice (some ⟨z1.heap.size, 0, none⟩) 1 1) [.slice a9 gn.length c9]) := .inr ⟨⟨z1.heap.size, 0, none⟩, 1, rfl, fun j u hu => World.news_of_block (cs := #[.slice a9 gn.length c9]) (blk_alloc z1 _) j u hu⟩
          have hL9 : L.length ≤ 1048576 := by have := HL.out; omega
          clear e0 e1 e2 e3 e4 e5 lc0
          go_wp2_with (at_builtin; refine wpList_appL rfl (.tmp 33) (.tmp 35) rfl w.heap.size wr (.slice (some ⟨bL, oL, none⟩) L.length cL) L rfl HOW.out Z2.out HW.out.size hL9 (.slice (some ⟨z1.heap.size, 0, none⟩) 1 1) [.slice a9 gn.length c9] [gn] rfl N2.out X2.out (by simp) ?_)
          intro v5 w5 ho5 hb5
          have O5 := hide ho5
          have H5 : Hid (Below w.heap.size w w5) := (HW.out.trans (Z2.out.mono HW.out.size)).trans hb5
          clear ho5 hb5
          go_wp2_with fail
          go_roundg (gk - 1)
          case measure => omega
          case rel => exact ⟨H5.out, k + 1, L ++ [gn], by omega, by go_num, by simp; exact HL.out, HTK1.out, O5.out, HSN1.out⟩
    · have hkl : k = cs.length := by omega
      have HRR : Hid (R = some L) := by
        have := HFO.out
        rw [hkl, List.take_length] at this
        unfold Hid; rw [HR.out]; exact this
      clear hd hbw hLl
      go_wp2_with fail
      all_goals go_tidy
      exact ⟨rfl, .tuple #[.slice aL L.length cL, .bool true], by simp [results, Tryd.results67, go_sem], HW.out, by rw [HRR.out]; exact ⟨_, rfl, HOW.out⟩⟩
theorem LRet.trans {w w1 w' : World} {o : Option (List (List RCol))} {e : Ending} (hb : Below w.heap.size w w1) (h : LRet w1 o e w') : LRet w o e w' := by
  obtain ⟨h1, h2⟩ := h
  refine ⟨hb.trans (h1.mono hb.size), ?_⟩
  cases o with
  | none => exact h2
  | some g =>
    obtain ⟨v', h3, h4⟩ := h2
    exact ⟨v', h3, OwnL.mono h4 hb.size⟩
theorem LRet.uni2 {w w' : World} {o : Option (List (List RCol))} {e : Ending} (h : LRet w o e w') : ∃ v', e = .returned (.tuple #[v', .bool o.isSome]) ∧ OwnL w.heap.size w' v' (o.getD []) ∧ Below w.heap.size w w' := by
  obtain ⟨hb, hq⟩ := h
  cases o with
  | none => exact ⟨_, hq, OwnL.nil _ _, hb⟩
  | some g =>
    obtain ⟨v', h1, h2⟩ := hq
    exact ⟨v', h1, h2, hb⟩
set_option maxHeartbeats 8000000 in
set_option maxRecDepth 100000 in
theorem sChain_any (v u : Value) (f : List RCol) (cs : List RChg) (w : World) (h : Recs cEnc 4 w v f) (h' : Recs hEnc 6 w u cs) (ho : ∀ x ∈ f, okC x) (hoc : ∀ c ∈ cs, okH c) :
    Calls Tryd.prog 29 #[v, u] w (LRet w (chainL f cs)) := by
  obtain ⟨R, hR⟩ : ∃ R, R = chainL f cs := ⟨_, rfl⟩
  rw [← hR]
  have HV := hide (svalidFormat_any v f w h ho)
  have HF := hide h
  have HU := hide h'
  have HS := hide (fun (W : World) (h1 : Recs cEnc 4 W v f) (h2 : Recs hEnc 6 W u cs) (hv : fmtB f = true) (h8 : cs.length ≤ 8) => sformats_any v u f cs W h1 h2 hv ho hoc h8)
  obtain ⟨a, cap, rfl, hl, hcap⟩ := h.shape
  obtain ⟨a2, cap2, rfl, hl2, hcap2⟩ := h'.shape
  clear h h' ho hoc
  cases hv : fmtB f with
  | false =>
    have HR : Hid (R = none) := by unfold Hid; rw [hR]; simp [chainL, hv]
    rw [hv] at HV
    clear hR hv HS
    go_enter Tryd.func29, Tryd.ntmps29
    go_wp2_with fail
    with_reducible refine HV.out.mono ?_
    rintro e w1 ⟨rfl, hb1⟩
    have H1 := hide hb1
    clear hb1
    go_wp2_with fail
    all_goals go_tidy
    exact ⟨rfl, .tuple #[.slice none 0 0, .bool false], by simp [results, Tryd.results29, go_sem], H1.out, by rw [HR.out]⟩
  | true =>
    rw [hv] at HV
    by_cases h8 : cs.length ≤ 8
    · have HR : Hid (R = cs.foldl chStep (some [f])) := by unfold Hid; rw [hR]; simp [chainL, hv, h8]
      have HS := hide (fun W h1 h2 => HS.out W h1 h2 hv h8)
      rw [← HR.out] at HS
      clear hR hv
      go_enter Tryd.func29, Tryd.ntmps29
      go_wp2_with fail
      with_reducible refine HV.out.mono ?_
      rintro e w1 ⟨rfl, hb1⟩
      have H1 := hide hb1
      have HF1 := hide (HF.out.keep hb1)
      have HU1 := hide (HU.out.keep hb1)
      clear hb1
      go_wp2_with fail
      with_reducible refine (HS.out _ HF1.out HU1.out).mono ?_
      rintro e w2 ⟨hb2, hq⟩
      have H2 := hide (H1.out.trans (hb2.mono H1.out.size))
      have HZ := hide H1.out.size
      clear hb2 HR
      cases R with
      | none =>
        obtain rfl := hq
        go_wp2_with fail
        all_goals go_tidy
        exact ⟨rfl, .tuple #[.slice none 0 0, .bool false], by simp [results, Tryd.results29, go_sem], H2.out, rfl⟩
      | some g =>
        obtain ⟨v', rfl, ho'⟩ := hq
        have HO := hide ho'
        clear ho'
        go_wp2_with fail
        all_goals go_tidy
        exact ⟨rfl, .tuple #[v', .bool true], by simp [results, Tryd.results29, go_sem], H2.out, ⟨_, rfl, OwnL.mono HO.out HZ.out⟩⟩
    · have HR : Hid (R = none) := by unfold Hid; rw [hR]; simp [chainL, h8]
      have h9 : (8 : Int) < (cs.length : Int) := by omega
      clear hR hv HS h8
      go_enter Tryd.func29, Tryd.ntmps29
      go_wp2_with fail
      with_reducible refine HV.out.mono ?_
      rintro e w1 ⟨rfl, hb1⟩
      have H1 := hide hb1
      clear hb1
      go_wp2_with fail
      all_goals go_tidy
      exact ⟨rfl, .tuple #[.slice none 0 0, .bool false], by simp [results, Tryd.results29, go_sem], H1.out, by rw [HR.out]⟩
set_option maxHeartbeats 8000000 in
set_option maxRecDepth 100000 in
theorem svalidChain_any (v u : Value) (f : List RCol) (cs : List RChg) (w : World) (h : Recs cEnc 4 w v f) (h' : Recs hEnc 6 w u cs) (ho : ∀ x ∈ f, okC x) (hoc : ∀ c ∈ cs, okH c) :
    Calls Tryd.prog 82 #[v, u] w fun e w' => e = .returned (.bool (chainL f cs).isSome) ∧ Below w.heap.size w w' := by
  obtain ⟨R, hR⟩ : ∃ R, R = chainL f cs := ⟨_, rfl⟩
  rw [← hR]
  have HV := hide (svalidFormat_any v f w h ho)
  have HF := hide h
  have HU := hide h'
  have HS := hide (fun (W : World) (h1 : Recs cEnc 4 W v f) (h2 : Recs hEnc 6 W u cs) (hv : fmtB f = true) (h8 : cs.length ≤ 8) => sformats_any v u f cs W h1 h2 hv ho hoc h8)
  obtain ⟨a, cap, rfl, hl, hcap⟩ := h.shape
  obtain ⟨a2, cap2, rfl, hl2, hcap2⟩ := h'.shape
  clear h h' ho hoc
  cases hv : fmtB f with
  | false =>
    have HR : Hid (R.isSome = false) := by unfold Hid; rw [hR]; simp [chainL, hv]
    rw [hv] at HV
    clear hR hv HS
    go_enter Tryd.func82, Tryd.ntmps82
    go_wp2_with fail
    with_reducible refine HV.out.mono ?_
    rintro e w1 ⟨rfl, hb1⟩
    have H1 := hide hb1
    clear hb1
    go_wp2_with fail
    go_ret
    exact ⟨by rw [HR.out]; rfl, H1.out⟩
  | true =>
    rw [hv] at HV
    by_cases h8 : cs.length ≤ 8
    · have HR : Hid (R = cs.foldl chStep (some [f])) := by unfold Hid; rw [hR]; simp [chainL, hv, h8]
      have HS := hide (fun W h1 h2 => HS.out W h1 h2 hv h8)
      rw [← HR.out] at HS
      clear hR hv
      go_enter Tryd.func82, Tryd.ntmps82
      go_wp2_with fail
      with_reducible refine HV.out.mono ?_
      rintro e w1 ⟨rfl, hb1⟩
      have H1 := hide hb1
      have HF1 := hide (HF.out.keep hb1)
      have HU1 := hide (HU.out.keep hb1)
      clear hb1
      go_wp2_with fail
      with_reducible refine (HS.out _ HF1.out HU1.out).mono ?_
      rintro e w2 hq
      obtain ⟨v2, rfl, -, hb2⟩ := hq.uni2
      have H2 := hide (H1.out.trans (hb2.mono H1.out.size))
      clear hb2 HR hq
      go_wp2_with fail
      go_ret
      exact ⟨rfl, H2.out⟩
    · have HR : Hid (R.isSome = false) := by unfold Hid; rw [hR]; simp [chainL, h8]
      have h9 : (8 : Int) < (cs.length : Int) := by omega
      clear hR hv HS h8
      go_enter Tryd.func82, Tryd.ntmps82
      go_wp2_with fail
      with_reducible refine HV.out.mono ?_
      rintro e w1 ⟨rfl, hb1⟩
      have H1 := hide hb1
      clear hb1
      go_wp2_with fail
      go_ret
      exact ⟨by rw [HR.out]; rfl, H1.out⟩
end Go.Proofs.YtdijcdadcbhipaaDoor
