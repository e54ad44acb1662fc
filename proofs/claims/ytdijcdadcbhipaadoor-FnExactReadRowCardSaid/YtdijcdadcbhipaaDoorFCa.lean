/-
  ChainOf of the program.
-/
import Derived.Test.YtdijcdadcbhipaaDoorFO
import Derived.Test.YtdijcdadcbhipaaDoorFPl
import Derived.RegionCalls
import Derived.Deep.RegionLaw
import Derived.Deep.DeepCutAuto
set_option linter.all false
namespace Go.Proofs.YtdijcdadcbhipaaDoor
open Go.RowKit
def chStep (o : Option (List (List RCol))) (c : RChg) : Option (List (List RCol)) := o.bind fun L => (L.getLast?.bind fun g => chC g c).map fun n => L ++ [n]
def chainL (f : List RCol) (cs : List RChg) : Option (List (List RCol)) := if fmtB f && decide (cs.length ≤ 8) then cs.foldl chStep (some [f]) else none
def LRet (w : World) (o : Option (List (List RCol))) (e : Ending) (w' : World) : Prop :=
  Below w.heap.size w w' ∧ match o with
    | none => e = .returned (.tuple #[.slice none 0 0, .bool false])
    | some g => ∃ v', e = .returned (.tuple #[v', .bool true]) ∧ OwnL w.heap.size w' v' g
theorem fold_none (cs : List RChg) : cs.foldl chStep none = none := by
  induction cs with
  | nil => rfl
  | cons c cs ih => exact ih
theorem fold_split (cs : List RChg) (k : Nat) (hk : k < cs.length) (o : Option (List (List RCol))) : cs.foldl chStep o = (cs.drop (k + 1)).foldl chStep (chStep ((cs.take k).foldl chStep o) cs[k]) := by
  conv => lhs; rw [← List.take_append_drop k cs, List.foldl_append, List.drop_eq_getElem_cons hk, List.foldl_cons]
theorem fold_take (cs : List RChg) (k : Nat) (hk : k < cs.length) (o : Option (List (List RCol))) : (cs.take (k + 1)).foldl chStep o = chStep ((cs.take k).foldl chStep o) cs[k] := by
  rw [List.take_succ_eq_append_getElem hk, List.foldl_append]; rfl
theorem CRet.no {w w' : World} {o : Option (List RCol)} {e : Ending} (h : CRet w o e w') (ho : o = none) : e = .returned (.tuple #[.slice none 0 0, .bool false]) ∧ Below w.heap.size w w' := by
  subst ho; exact ⟨h.2, h.1⟩
theorem CRet.yes {w w' : World} {o : Option (List RCol)} {e : Ending} {g : List RCol} (h : CRet w o e w') (ho : o = some g) : ∃ v', e = .returned (.tuple #[v', .bool true]) ∧ OwnC w.heap.size w' v' g ∧ Below w.heap.size w w' := by
  subst ho
  obtain ⟨h1, v', h2, h3⟩ := h
  exact ⟨v', h2, h3, h1⟩
theorem chStep_at {L : List (List RCol)} {c : RChg} {k : Nat} (hl : L.length = k + 1) : chStep (some L) c = (chC (L[k]'(by omega)) c).map fun n => L ++ [n] := by
  have : L.getLast? = some (L[k]'(by omega)) := by
    have e : L.length - 1 = k := by omega
    rw [List.getLast?_eq_getElem?, e, List.getElem?_eq_getElem (by omega)]
  simp [chStep, this]
theorem ownL_one {w : World} {v : Value} {f : List RCol} {B : Nat} (h : OwnC B w v f) (hB : B ≤ w.heap.size) : OwnL B (w.alloc (.cells #[v] 23)) (.slice (some ⟨w.heap.size, 0, none⟩) 1 1) [f] := by
  refine ⟨[v], ?_, LvsX.one (OwnR.alloc h _), fun i lv hlv => ?_⟩
  · exact own_of (cur := #[v]) hB (blk_alloc w _) rfl (by unfold maxLen; omega) (Nat.le_refl _) rfl (fun j hj => by simp)
  · have : i = 0 ∧ lv = v := by
      cases i with
      | zero => simp at hlv; exact ⟨rfl, hlv.symm⟩
      | succ i => simp at hlv
    obtain ⟨-, rfl⟩ := this
    intro k hk e
    have := OwnR.base h k hk
    have h2 := (World.ownsRow.lt h k hk).2
    simp [Value.ownBlock] at e
    omega
set_option maxHeartbeats 16000000 in
set_option maxRecDepth 100000 in
theorem iChain_any (v u : Value) (f : List RCol) (cs : List RChg) (w : World) (h : Recs cEnc 4 w v f) (h' : Recs hEnc 6 w u cs) (ht : Tab w) :
    Calls Tryd.prog 28 #[v, u] w (LRet w (chainL f cs)) := by
  obtain ⟨R, hR⟩ : ∃ R, R = chainL f cs := ⟨_, rfl⟩
  rw [← hR]
  have HV := hide (ivalidFormat_any v f w h)
  have HF := hide h
  obtain ⟨a, cap, rfl, hl, hcap⟩ := h.shape
  obtain ⟨a2, cap2, rfl, hl2, hcap2, -, hd⟩ := h'
  clear h
  cases hv : fmtB f with
  | false =>
    have HR : Hid (R = none) := by unfold Hid; rw [hR]; simp [chainL, hv]
    rw [hv] at HV
    clear hR hv hd
    go_enter Tryd.func28, Tryd.ntmps28
    go_wp2_with fail
    with_reducible refine HV.out.mono ?_
    rintro e w1 ⟨rfl, hb1⟩
    have H1 := hide hb1
    clear hb1
    go_wp2_with fail
    all_goals go_tidy
    exact ⟨rfl, .tuple #[.slice none 0 0, .bool false], by simp [results, Tryd.results28, go_sem], H1.out, by rw [HR.out]⟩
  | true =>
    rw [hv] at HV
    by_cases h8 : cs.length ≤ 8
    · have HR : Hid (R = cs.foldl chStep (some [f])) := by unfold Hid; rw [hR]; simp [chainL, hv, h8]
      have hf5 := (fmt_len2 hv).2.1
      clear hR hv
      go_enter Tryd.func28, Tryd.ntmps28
      go_wp2_with fail
      with_reducible refine HV.out.mono ?_
      rintro e w1 ⟨rfl, hb1⟩
      have H1 := hide hb1
      have HF1 := hide (HF.out.keep hb1)
      clear hb1 HV
      go_wp2_with fail
      with_reducible refine (cloneC_any _ f _ HF1.out (by omega)).mono ?_
      rintro e w2 ⟨v2, rfl, ho2, hb2⟩
      obtain ⟨a2x, c2x, rfl, -, -⟩ := own_slc ho2
      have H2 := hide (H1.out.trans (hb2.mono H1.out.size))
      have L2 : Hid (OwnL w.heap.size (w2.alloc (.cells #[.slice a2x f.length c2x] 23)) (.slice (some ⟨w2.heap.size, 0, none⟩) 1 1) [f]) := ownL_one (OwnR.mono ho2 H1.out.size) H2.out.size
      have H2a : Hid (Below w.heap.size w (w2.alloc (.cells #[.slice a2x f.length c2x] 23))) := H2.out.alloc H2.out.size _
      clear hb2 ho2 HF1
      go_wp2_with fail
      go_loopg [6, 24] cs.length (fun gk s6 s24 wr => Below w.heap.size w wr ∧ ∃ (k : Nat) (L : List (List RCol)), k + gk = cs.length ∧ s24 = .int .i64 (k : Int) ∧ L.length = k + 1 ∧ (cs.take k).foldl chStep (some [f]) = some L ∧ OwnL w.heap.size wr s6 L)
      case atStart => exact ⟨H2a.out, 0, [f], by omega, rfl, rfl, rfl, L2.out⟩
      case round =>
        clear L2 H2a H2 H1
        obtain ⟨hbw, k, L, hk, rfl, hLl, hfold, hown⟩ := hrel
        have HW := hide hbw
        have HL := hide hLl
        have HFO := hide hfold
        have HOW := hide hown
        obtain ⟨aL, cL, rfl, hcL1, hcL2⟩ := ownL_slc hown
        clear hfold hown
        by_cases hlt : k < cs.length
        · obtain ⟨b, off, rfl, hbb, hcell⟩ := hd.resolve_left (by rintro rfl; simp at hlt)
          have e := at6 (fun j u hu => (hbw.cell (p := ⟨b, _, none⟩) hbb).trans (hcell k hlt j u hu))
          have hkL : k < L.length := by omega
          have HST : Hid (cs.foldl chStep (some [f]) = (cs.drop (k + 1)).foldl chStep ((chC L[k] cs[k]).map fun n => L ++ [n])) := by unfold Hid; rw [fold_split cs k hlt, HFO.out, chStep_at hLl]
          have HTK : Hid ((cs.take (k + 1)).foldl chStep (some [f]) = (chC L[k] cs[k]).map fun n => L ++ [n]) := by unfold Hid; rw [fold_take cs k hlt, HFO.out, chStep_at hLl]
          have hLv := HOW.out.lvs
          obtain ⟨lv, lcell, lrec, -⟩ : ∃ lv, (∀ W, Below wr.heap.size wr W → ∃ bL oL, aL = some ⟨bL, oL, none⟩ ∧ W.cell? ⟨bL, oL + k, none⟩ = some lv) ∧ Recs cEnc 4 wr lv L[k] ∧ True := by
            obtain ⟨a', cap', hv', -, -, hd'⟩ := hLv
            obtain ⟨bL, oL, he, hbL, hcL⟩ := hd'.resolve_left (by rintro rfl; simp at hkL)
            injection hv' with q1 q2 q3
            obtain ⟨lv, l1, l2, -⟩ := hcL k hkL
            exact ⟨lv, fun W hW => ⟨bL, oL, by rw [q1, he], (hW.cell (p := ⟨bL, oL + k, none⟩) hbL).trans l1⟩, l2, trivial⟩
          have HLR := hide lrec
          obtain ⟨bL, oL, rfl, lc0⟩ := lcell wr (Below.refl _ _)
          have HLC : Hid (∀ W, Below wr.heap.size wr W → W.cell? ⟨bL, oL + k, none⟩ = some lv) := fun W hW => by
            obtain ⟨b1, o1, e1, e2⟩ := lcell W hW
            injection e1 with e1
            injection e1 with e1 e3 _
            rw [e1, e3]; exact e2
          obtain ⟨gL, hgL⟩ : ∃ gL, L[k] = gL := ⟨_, rfl⟩
          obtain ⟨c, hc⟩ : ∃ c, cs[k] = c := ⟨_, rfl⟩
          rw [hgL] at HLR HST HTK
          rw [hc] at e HST HTK
          obtain ⟨e0, e1, e2, e3, e4, e5⟩ := e
          have HBX := hide (below_box wr (.cells #[.int .i64 c.k, .int .i64 c.a, .int .i64 c.c.k, .int .i64 c.c.d.k, .int .i64 c.c.d.n, .string c.c.d.s] 29))
          have BX := hide (blk_alloc wr (.cells #[.int .i64 c.k, .int .i64 c.a, .int .i64 c.c.k, .int .i64 c.c.d.k, .int .i64 c.c.d.n, .string c.c.d.s] 29))
          have lc1 := HLC.out _ HBX.out
          have HW1 := hide (HW.out.trans (HBX.out.mono HW.out.size))
          have HIC := hide (fun W h t => iChange_any c lv gL W h t)
          obtain ⟨al, cl, rfl, -, -⟩ := lrec.shape
          clear hd hcell hbw hLv lrec lcell hgL hc hLl
          have HCC := hide (fun (W : World) (hW : Below wr.heap.size wr W) => HIC.out W (HLR.out.keep hW) (ht.keep (HW.out.trans (hW.mono HW.out.size))))
          cases hR1 : chC gL c with
          | none =>
            rw [hR1] at HST HTK
            have HRN : Hid (R = none) := by unfold Hid; rw [HR.out, HST.out]; simp only [Option.map_none]; exact fold_none _
            have HR1 := hide hR1
            clear hR1
            go_upto_region 7 with fail
            go_region_law (first
              | (go_simp; go_at_call 16; (with_reducible refine (HCC.out _ (by first | exact HBX.out | exact HBX.out.drew)).mono ?_); rintro e z1 hq; (obtain ⟨rfl, hz1⟩ := hq.no HR1.out); (have Z1 : Hid (Below wr.heap.size wr z1) := by first | exact HBX.out.trans (hz1.mono HBX.out.size) | exact HBX.out.drew.trans (hz1.mono HBX.out.drew.size)); clear hz1 hq)
              | fail)
            all_goals
              have H9 := hide (HW.out.trans (Z1.out.mono HW.out.size))
              clear e0 e1 e2 e3 e4 e5 lc0 lc1
              go_wp2_with fail
              all_goals go_tidy
              exact ⟨rfl, .tuple #[.slice none 0 0, .bool false], by simp [results, Tryd.results28, go_sem], H9.out, by rw [HRN.out]⟩
          | some gn =>
            rw [hR1] at HST HTK
            have HTK1 : Hid ((cs.take (k + 1)).foldl chStep (some [f]) = some (L ++ [gn])) := by unfold Hid; rw [HTK.out]; rfl
            have HR1 := hide hR1
            clear hR1
            go_upto_region 7 with fail
            go_region_law (first
              | (go_simp; go_at_call 16; (with_reducible refine (HCC.out _ (by first | exact HBX.out | exact HBX.out.drew)).mono ?_); rintro e z1 hq; (obtain ⟨v9, rfl, ho9, hz1⟩ := hq.yes HR1.out); (obtain ⟨a9, c9, rfl, -, -⟩ := own_slc ho9); (have Z1 : Hid (Below wr.heap.size wr z1) := by first | exact HBX.out.trans (hz1.mono HBX.out.size) | exact HBX.out.drew.trans (hz1.mono HBX.out.drew.size)); (have O9 : Hid (OwnC wr.heap.size z1 (.slice a9 gn.length c9) gn) := OwnR.mono ho9 (by first | exact HBX.out.size | exact HBX.out.drew.size)); clear hz1 ho9 hq)
              | fail)
            all_goals
              have Z2 : Hid (Below wr.heap.size wr (z1.alloc (.cells #[.slice a9 gn.length c9] 23))) := Z1.out.alloc Z1.out.size _
              have X2 := hide (LvsX.one (OwnR.alloc O9.out (.cells #[.slice a9 gn.length c9] 23)))
              have N2 : Hid (News (z1.alloc (.cells #[.slice a9 gn.length c9] 23)) (.slice (some ⟨z1.heap.size, 0, none⟩) 1 1) [.slice a9 gn.length c9]) := .inr ⟨⟨z1.heap.size, 0, none⟩, 1, rfl, fun j u hu => World.news_of_block (cs := #[.slice a9 gn.length c9]) (blk_alloc z1 _) j u hu⟩
              have hL9 : L.length ≤ 1048576 := by have := HL.out; omega
              clear e0 e1 e2 e3 e4 e5 lc0 lc1
              go_wp2_with (at_builtin; refine wpList_appL rfl (.tmp 40) (.tmp 42) rfl w.heap.size wr (.slice (some ⟨bL, oL, none⟩) L.length cL) L rfl HOW.out Z2.out HW.out.size hL9 (.slice (some ⟨z1.heap.size, 0, none⟩) 1 1) [.slice a9 gn.length c9] [gn] rfl N2.out X2.out (by simp) ?_)
              intro v5 w5 ho5 hb5
              have O5 := hide ho5
              have H5 : Hid (Below w.heap.size w w5) := (HW.out.trans (Z2.out.mono HW.out.size)).trans hb5
              clear ho5 hb5
              go_wp2_with fail
              go_roundg (gk - 1)
              case measure => omega
              case rel => exact ⟨H5.out, k + 1, L ++ [gn], by omega, by go_num, by simp; exact HL.out, HTK1.out, O5.out⟩
        · have hkl : k = cs.length := by omega
          have HRR : Hid (R = some L) := by
            have := HFO.out
            rw [hkl, List.take_length] at this
            unfold Hid; rw [HR.out]; exact this
          clear hd hbw hLl
          go_wp2_with fail
          all_goals go_tidy
          exact ⟨rfl, .tuple #[.slice aL L.length cL, .bool true], by simp [results, Tryd.results28, go_sem], HW.out, by rw [HRR.out]; exact ⟨_, rfl, HOW.out⟩⟩
    · have HR : Hid (R = none) := by unfold Hid; rw [hR]; simp [chainL, h8]
      have h9 : (8 : Int) < (cs.length : Int) := by omega
      clear hR hv hd h8
      go_enter Tryd.func28, Tryd.ntmps28
      go_wp2_with fail
      with_reducible refine HV.out.mono ?_
      rintro e w1 ⟨rfl, hb1⟩
      have H1 := hide hb1
      clear hb1
      go_wp2_with fail
      all_goals go_tidy
      exact ⟨rfl, .tuple #[.slice none 0 0, .bool false], by simp [results, Tryd.results28, go_sem], H1.out, by rw [HR.out]⟩
end Go.Proofs.YtdijcdadcbhipaaDoor
