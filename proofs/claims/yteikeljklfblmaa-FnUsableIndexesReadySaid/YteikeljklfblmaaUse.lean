/-
  UsableIndexes of the program and of the specification; equalTexts.
-/
import Derived.Test.YteikeljklfblmaaCatLaw2
set_option linter.all false
namespace Go.Proofs.Yteikeljklfblmaa
open Go.RowKit
def useE (tb : ByteArray) (ch : Bool) (e : Ent) : Bool := eqS e.t tb && ((e.s == 1) || (ch && (e.s == 0)))
def useT (tb : ByteArray) (ch : Bool) (l : List Ent) : List ByteArray := (l.filter (useE tb ch)).map Ent.n
def useOk (l : List Ent) (tb : ByteArray) : Bool := catB l && hasTB l tb
def useR (l : List Ent) (tb : ByteArray) (ch : Bool) : List ByteArray := if useOk l tb then (l.filter (useE tb ch)).map Ent.n else []
/-- a row of texts that the call owns -/
def OwnT (B : Nat) (w : World) (v : Value) (ts : List ByteArray) : Prop := w.ownsRow B 9 1 v ts.length (ts.map Value.string)
/-- a row of texts that can be read -/
def Txts (w : World) (v : Value) (ts : List ByteArray) : Prop :=
  ∃ a cap, v = .slice a ts.length cap ∧ ts.length ≤ cap ∧ cap ≤ 9223372036854775807 ∧ (ts = [] ∨ ∃ b off, a = some ⟨b, off, none⟩ ∧ b < w.heap.size ∧ ∀ i (h : i < ts.length), w.cell? ⟨b, off + i, none⟩ = some (.string ts[i]))
theorem Txts.keep {w w' : World} {v : Value} {ts : List ByteArray} (h : Txts w v ts) (hb : Below w.heap.size w w') : Txts w' v ts := by
  obtain ⟨a, cap, hv, h1, h2, h3⟩ := h
  refine ⟨a, cap, hv, h1, h2, ?_⟩
  rcases h3 with h3 | ⟨b, off, e, hlt, hc⟩
  · exact .inl h3
  · exact .inr ⟨b, off, e, Nat.lt_of_lt_of_le hlt hb.size, fun i hi => (hb.cell (p := ⟨b, off + i, none⟩) hlt).trans (hc i hi)⟩
theorem OwnT.txts {B : Nat} {w : World} {v : Value} {ts : List ByteArray} (h : OwnT B w v ts) : Txts w v ts := by
  unfold OwnT at h
  rcases h.2 with ⟨rfl, hn⟩ | ⟨g, cap, cur, rfl, hb, hg, hnc, hcm, hcs, htake⟩
  · have : ts = [] := List.length_eq_zero_iff.1 hn
    subst this
    exact ⟨none, 0, rfl, by simp, by omega, .inl rfl⟩
  · refine ⟨_, cap, rfl, hnc, by unfold maxLen at hcm; omega, .inr ⟨g, 0, rfl, lt_block hg, fun i hi => ?_⟩⟩
    rw [Nat.zero_add, World.ownsRow.cellAt h i (by omega)]
    simp [hi]
theorem infoS : (Try.prog.info? 9).map (fun i => (i.zero, i.size, i.bytes)) = some (some (.string ⟨#[]⟩), 1, 16) := by kernel_rfl
theorem take_names {l : List Ent} {k : Nat} (h : k < l.length) (tb : ByteArray) (ch : Bool) : useT tb ch (l.take (k + 1)) = useT tb ch (l.take k) ++ (if useE tb ch l[k] then [l[k].n] else []) := by
  unfold useT
  rw [take_filter h, List.map_append]
  split <;> rfl
def UseRet (w : World) (R : List ByteArray) (e : Ending) (w' : World) : Prop := ∃ v', e = .returned v' ∧ OwnT w.heap.size w' v' R ∧ Below w.heap.size w w'
theorem ownT_nil (B : Nat) (w : World) : OwnT B w (.slice none 0 0) [] := World.ownsRow_nil _ _ _ _
theorem ownT_alloc {B : Nat} {w : World} {v : Value} {ts : List ByteArray} (h : OwnT B w v ts) (o : Obj) : OwnT B (w.alloc o) v ts := World.ownsRow.alloc h o
theorem ownT_lit {W : World} {b B : Nat} (hb : b = W.heap.size) (hB : B ≤ W.heap.size) : OwnT B (W.alloc (.cells #[] 9)) (.slice (some ⟨b, 0, none⟩) 0 0) [] := own_lit_at hb hB
set_option maxHeartbeats 8000000 in
theorem iUsable_any (tb : ByteArray) (ch : Bool) (v : Value) (l : List Ent) (w : World) (h : Ents w v l) :
    Calls Try.prog 25 #[v, .string tb, .bool ch] w (UseRet w (useR l tb ch)) := by
  have HE := hide h
  clear h
  have HA := hide HE.out
  have H0 := hide (Below.refl w.heap.size w)
  have O0 := hide (ownT_nil w.heap.size w)
  obtain ⟨R, hR⟩ : ∃ R, useR l tb ch = R := ⟨_, rfl⟩
  rw [hR]
  have HR := hide hR
  clear hR
  by_cases hcat : catB l = true
  · have hlen : l.length ≤ 12 := (of_decide_eq_true hcat).1
    have HC := hide hcat
    obtain ⟨ht, hht⟩ : ∃ ht, hasTB l tb = ht := ⟨_, rfl⟩
    have HT := hide hht
    clear hcat hht
    obtain ⟨i0, hi, hz0, hz1, hz2⟩ := info_parts infoS
    go_enter Try.func25, Try.ntmps25
    go_wp2_with fail
    refine (ivalidCatalog_any v l _ HA.out).mono ?_
    rintro e w1 ⟨rfl, hb1⟩
    rw [HC.out]
    have E1 := hide (HA.out.keep hb1)
    have H1 : Hid (Below w.heap.size w w1) := H0.out.trans (hb1.mono H0.out.size)
    have O1 : Hid (OwnT w.heap.size w1 _ []) := World.ownsRow.kept O0.out (grown_below hb1 none) (by simp [Value.ownBlock])
    clear hb1
    go_wp2_with fail
    refine (hasTable_any tb v l _ E1.out).mono ?_
    rintro e w2 ⟨rfl, hb2⟩
    rw [HT.out]
    have H2 : Hid (Below w.heap.size w w2) := H1.out.trans (hb2.mono H1.out.size)
    have O2 : Hid (OwnT w.heap.size w2 _ []) := World.ownsRow.kept O1.out (grown_below hb2 none) (by simp [Value.ownBlock])
    clear hb2
    cases ht with
    | false =>
      have hRe : R = [] := by rw [← HR.out]; simp [useR, useOk, HT.out]
      clear HR
      go_wp2_with fail
      go_ret
      exact ⟨_, rfl, by rw [hRe]; exact ownT_nil _ _, H2.out⟩
    | true =>
      have hRe : Hid (R = useT tb ch l) := by unfold Hid; rw [← HR.out]; simp [useR, useOk, HT.out, HC.out, useT]
      obtain ⟨a, cap, rfl, hl, hcap, hd⟩ := HE.out
      go_wp2_with fail
      go_loopg [7, 21] l.length (fun gk s7 sk wr => Below w.heap.size w wr ∧ ∃ (k : Nat), k + gk = l.length ∧ sk = .int .i64 (k : Int) ∧ OwnT w.heap.size wr s7 (useT tb ch (l.take k)))
      case atStart => exact ⟨H2.out, 0, by omega, rfl, O2.out⟩
      case round =>
        obtain ⟨hbw, k, hk, rfl, hown⟩ := hrel
        have HW := hide hbw
        have HO := hide hown
        have hbs : w.heap.size ≤ wr.heap.size := hbw.size
        clear hown
        by_cases hlt : k < l.length
        · obtain ⟨b, off, rfl, hbb, hcell⟩ := hd.resolve_left (by rintro rfl; simp at hlt)
          obtain ⟨e0, e1, e2, -⟩ := (hcell k hlt).keep hbw
          have HTK := hide (take_names hlt tb ch)
          clear hcell hd hbw
          generalize l[k] = x at *
          have skip : Hid (useE tb ch x = false → useT tb ch (l.take (k + 1)) = useT tb ch (l.take k)) := fun h => by rw [HTK.out, if_neg (by rw [h]; exact Bool.false_ne_true), List.append_nil]
          have keep : Hid (useE tb ch x = true → useT tb ch (l.take (k + 1)) = useT tb ch (l.take k) ++ [x.n]) := fun h => by rw [HTK.out, if_pos h]
          have hfl : (useT tb ch (l.take k)).length ≤ k := by rw [useT, List.length_map]; exact Nat.le_trans (List.length_filter_le _ _) (by rw [List.length_take]; omega)
          clear HTK
          obtain ⟨T0, hT0⟩ : ∃ T0, useT tb ch (l.take k) = T0 := ⟨_, rfl⟩
          obtain ⟨T1, hT1⟩ : ∃ T1, useT tb ch (l.take (k + 1)) = T1 := ⟨_, rfl⟩
          rw [hT0] at skip keep hfl HO
          rw [hT1] at skip keep
          try rw [hT0]
          have HT1 := hide hT1
          clear hT0 hT1
          by_cases ht : x.t.toList = tb.toList
          · by_cases hs1 : x.s = 1
            · have b1 : (x.s == 1) = true := by simp [hs1]
              go_wp2_with (at_builtin; refine wpList_append_lies _ rfl (.tmp 42) (.tmp 45) 40 rfl w.heap.size 9 i0 _ 1 16 Try.underlying40 hi hz0 hz1 hz2 rfl (by decide) _ _ _ rfl (World.ownsRow.alloc (ownT_alloc HO.out _) _) ⟨_, 0, none⟩ 1 1 [.string x.n] rfl rfl ?c1 ?h1 (by decide) ?h63 ?hb ?hbase _ rfl ?next)
              case c1 => exact World.news_of_block (cs := #[.string x.n]) (blk_at (by simp) _)
              case h1 => intro u hu; simp at hu; subst hu; rfl
              case h63 => unfold maxLen; omega
              case hb => omega
              case hbase => simp; omega
              case next =>
                intro g cp w3 hown hgrow hat hlt3
                have HN : Hid (OwnT w.heap.size w3 (.slice (some ⟨g, 0, none⟩) (T0.length + 1) cp) T1) := by
                  rw [keep.out (by simp [useE, eqS, ht, hs1])]
                  unfold Hid OwnT
                  rw [List.length_append, List.map_append]
                  exact hown
                have H3 : Hid (Below w.heap.size w w3) := ((HW.out.alloc HW.out.size _).alloc (by have := HW.out.size; simp <;> omega) _).grown hgrow (by have := HW.out.size; simp <;> omega) (fun q hq => (HO.out.lt q hq).1)
                clear hown hgrow hat
                go_wp2_with fail
                go_roundg (gk - 1)
                case measure => omega
                case rel => exact ⟨H3.out, k + 1, by omega, by go_num, by rw [HT1.out]; exact HN.out⟩
            · have b1 : (x.s == 1) = false := by simpa using hs1
              cases ch with
              | false =>
                go_wp2_with fail
                go_roundg (gk - 1)
                case measure => omega
                case rel => exact ⟨(HW.out.alloc HW.out.size _), k + 1, by omega, by go_num, by rw [HT1.out, skip.out (by simp [useE, eqS, ht, hs1])]; exact (ownT_alloc HO.out _)⟩
              | true =>
                by_cases hs0 : x.s = 0
                · have b0 : (x.s == 0) = true := by simp [hs0]
                  go_wp2_with (at_builtin; refine wpList_append_lies _ rfl (.tmp 42) (.tmp 45) 40 rfl w.heap.size 9 i0 _ 1 16 Try.underlying40 hi hz0 hz1 hz2 rfl (by decide) _ _ _ rfl (World.ownsRow.alloc (ownT_alloc HO.out _) _) ⟨_, 0, none⟩ 1 1 [.string x.n] rfl rfl ?c1 ?h1 (by decide) ?h63 ?hb ?hbase _ rfl ?next)
                  case c1 => exact World.news_of_block (cs := #[.string x.n]) (blk_at (by simp) _)
                  case h1 => intro u hu; simp at hu; subst hu; rfl
                  case h63 => unfold maxLen; omega
                  case hb => omega
                  case hbase => simp; omega
                  case next =>
                    intro g cp w3 hown hgrow hat hlt3
                    have HN : Hid (OwnT w.heap.size w3 (.slice (some ⟨g, 0, none⟩) (T0.length + 1) cp) T1) := by
                      rw [keep.out (by simp [useE, eqS, ht, hs0])]
                      unfold Hid OwnT
                      rw [List.length_append, List.map_append]
                      exact hown
                    have H3 : Hid (Below w.heap.size w w3) := ((HW.out.alloc HW.out.size _).alloc (by have := HW.out.size; simp <;> omega) _).grown hgrow (by have := HW.out.size; simp <;> omega) (fun q hq => (HO.out.lt q hq).1)
                    clear hown hgrow hat
                    go_wp2_with fail
                    go_roundg (gk - 1)
                    case measure => omega
                    case rel => exact ⟨H3.out, k + 1, by omega, by go_num, by rw [HT1.out]; exact HN.out⟩
                · have b0 : (x.s == 0) = false := by simpa using hs0
                  go_wp2_with fail
                  go_roundg (gk - 1)
                  case measure => omega
                  case rel => exact ⟨(HW.out.alloc HW.out.size _), k + 1, by omega, by go_num, by rw [HT1.out, skip.out (by simp [useE, eqS, ht, hs0, hs1])]; exact (ownT_alloc HO.out _)⟩
          · have ht' : (x.t.toList == tb.toList) = false := by simpa using ht
            go_wp2_with fail
            go_roundg (gk - 1)
            case measure => omega
            case rel => exact ⟨(HW.out.alloc HW.out.size _), k + 1, by omega, by go_num, by rw [HT1.out, skip.out (by simp [useE, eqS, ht])]; exact (ownT_alloc HO.out _)⟩
        · have hkl : k = l.length := by omega
          subst hkl
          rw [List.take_length] at HO
          rw [← hRe.out] at HO
          clear hd
          go_wp2_with fail
          go_ret
          exact ⟨_, rfl, HO.out, HW.out⟩
  · have hcat' : catB l = false := by simpa using hcat
    have hRe : Hid (R = []) := by unfold Hid; rw [← HR.out]; simp [useR, useOk, hcat']
    clear HR
    go_enter Try.func25, Try.ntmps25
    go_wp2_with fail
    refine (ivalidCatalog_any v l _ HA.out).mono ?_
    rintro e w1 ⟨rfl, hb1⟩
    rw [hcat']
    have H1 : Hid (Below w.heap.size w w1) := H0.out.trans (hb1.mono H0.out.size)
    clear hb1
    go_wp2_with fail
    go_ret
    exact ⟨_, rfl, by rw [hRe.out]; exact ownT_nil _ _, H1.out⟩
set_option maxHeartbeats 8000000 in
theorem sUsable_any (tb : ByteArray) (ch : Bool) (v : Value) (l : List Ent) (w : World) (h : Ents w v l) :
    Calls Try.prog 27 #[v, .string tb, .bool ch] w (UseRet w (useR l tb ch)) := by
  have HE := hide h
  clear h
  have HA := hide (HE.out.keep ((Below.refl w.heap.size w).alloc (Nat.le_refl _) (.cells #[] 9)))
  have H0 := hide ((Below.refl w.heap.size w).alloc (Nat.le_refl _) (.cells #[] 9))
  have O0 := hide (ownT_lit (B := w.heap.size) (W := w) rfl (Nat.le_refl _))
  obtain ⟨R, hR⟩ : ∃ R, useR l tb ch = R := ⟨_, rfl⟩
  rw [hR]
  have HR := hide hR
  clear hR
  by_cases hcat : catB l = true
  · have hlen : l.length ≤ 12 := (of_decide_eq_true hcat).1
    have HC := hide hcat
    obtain ⟨ht, hht⟩ : ∃ ht, hasTB l tb = ht := ⟨_, rfl⟩
    have HT := hide hht
    clear hcat hht
    obtain ⟨i0, hi, hz0, hz1, hz2⟩ := info_parts infoS
    go_enter Try.func27, Try.ntmps27
    go_wp2_with fail
    refine (svalidCatalog_any v l _ HA.out).mono ?_
    rintro e w1 ⟨rfl, hb1⟩
    rw [HC.out]
    have E1 := hide (HA.out.keep hb1)
    have H1 : Hid (Below w.heap.size w w1) := H0.out.trans (hb1.mono H0.out.size)
    have O1 : Hid (OwnT w.heap.size w1 _ []) := World.ownsRow.kept O0.out (grown_below hb1 none) (by simp [Value.ownBlock])
    clear hb1
    go_wp2_with fail
    refine (sisTable_any tb v l _ E1.out).mono ?_
    rintro e w2 ⟨rfl, rfl⟩
    have H2 := H1
    have O2 := O1
    rw [HT.out]
    cases ht with
    | false =>
      have hRe : R = [] := by rw [← HR.out]; simp [useR, useOk, HT.out]
      clear HR
      go_wp2_with fail
      go_ret
      exact ⟨_, rfl, by rw [hRe]; exact ownT_nil _ _, H2.out⟩
    | true =>
      have hRe : Hid (R = useT tb ch l) := by unfold Hid; rw [← HR.out]; simp [useR, useOk, HT.out, HC.out, useT]
      obtain ⟨a, cap, rfl, hl, hcap, hd⟩ := HE.out
      go_wp2_with fail
      go_loopg [7, 8] l.length (fun gk s7 sk wr => Below w.heap.size w wr ∧ ∃ (k : Nat), k + gk = l.length ∧ sk = .int .i64 (k : Int) ∧ OwnT w.heap.size wr s7 (useT tb ch (l.take k)))
      case atStart => exact ⟨H2.out, 0, by omega, rfl, O2.out⟩
      case round =>
        obtain ⟨hbw, k, hk, rfl, hown⟩ := hrel
        have HW := hide hbw
        have HO := hide hown
        have hbs : w.heap.size ≤ wr.heap.size := hbw.size
        clear hown
        by_cases hlt : k < l.length
        · obtain ⟨b, off, rfl, hbb, hcell⟩ := hd.resolve_left (by rintro rfl; simp at hlt)
          obtain ⟨e0, e1, e2, -⟩ := (hcell k hlt).keep hbw
          have HTK := hide (take_names hlt tb ch)
          clear hcell hd hbw
          generalize l[k] = x at *
          have skip : Hid (useE tb ch x = false → useT tb ch (l.take (k + 1)) = useT tb ch (l.take k)) := fun h => by rw [HTK.out, if_neg (by rw [h]; exact Bool.false_ne_true), List.append_nil]
          have keep : Hid (useE tb ch x = true → useT tb ch (l.take (k + 1)) = useT tb ch (l.take k) ++ [x.n]) := fun h => by rw [HTK.out, if_pos h]
          have hfl : (useT tb ch (l.take k)).length ≤ k := by rw [useT, List.length_map]; exact Nat.le_trans (List.length_filter_le _ _) (by rw [List.length_take]; omega)
          clear HTK
          obtain ⟨T0, hT0⟩ : ∃ T0, useT tb ch (l.take k) = T0 := ⟨_, rfl⟩
          obtain ⟨T1, hT1⟩ : ∃ T1, useT tb ch (l.take (k + 1)) = T1 := ⟨_, rfl⟩
          rw [hT0] at skip keep hfl HO
          rw [hT1] at skip keep
          try rw [hT0]
          have HT1 := hide hT1
          clear hT0 hT1
          by_cases ht : x.t.toList = tb.toList
          · by_cases hs1 : x.s = 1
            · have b1 : (x.s == 1) = true := by simp [hs1]
              go_wp2_with (at_builtin; refine wpList_append_lies _ rfl (.tmp 53) (.tmp 59) 40 rfl w.heap.size 9 i0 _ 1 16 Try.underlying40 hi hz0 hz1 hz2 rfl (by decide) _ _ _ rfl (World.ownsRow.alloc HO.out _) ⟨_, 0, none⟩ 1 1 [.string x.n] rfl rfl ?c1 ?h1 (by decide) ?h63 ?hb ?hbase _ rfl ?next)
              case c1 => exact World.news_of_block (cs := #[.string x.n]) (blk_at (by simp) _)
              case h1 => intro u hu; simp at hu; subst hu; rfl
              case h63 => unfold maxLen; omega
              case hb => omega
              case hbase => simp; omega
              case next =>
                intro g cp w3 hown hgrow hat hlt3
                have HN : Hid (OwnT w.heap.size w3 (.slice (some ⟨g, 0, none⟩) (T0.length + 1) cp) T1) := by
                  rw [keep.out (by simp [useE, eqS, ht, hs1])]
                  unfold Hid OwnT
                  rw [List.length_append, List.map_append]
                  exact hown
                have H3 : Hid (Below w.heap.size w w3) := (HW.out.alloc (by have := HW.out.size; simp <;> omega) _).grown hgrow (by have := HW.out.size; simp <;> omega) (fun q hq => (HO.out.lt q hq).1)
                clear hown hgrow hat
                go_wp2_with fail
                go_roundg (gk - 1)
                case measure => omega
                case rel => exact ⟨H3.out, k + 1, by omega, by go_num, by rw [HT1.out]; exact HN.out⟩
            · have b1 : (x.s == 1) = false := by simpa using hs1
              cases ch with
              | false =>
                go_wp2_with fail
                go_roundg (gk - 1)
                case measure => omega
                case rel => exact ⟨HW.out, k + 1, by omega, by go_num, by rw [HT1.out, skip.out (by simp [useE, eqS, ht, hs1])]; exact HO.out⟩
              | true =>
                by_cases hs0 : x.s = 0
                · have b0 : (x.s == 0) = true := by simp [hs0]
                  go_wp2_with (at_builtin; refine wpList_append_lies _ rfl (.tmp 53) (.tmp 59) 40 rfl w.heap.size 9 i0 _ 1 16 Try.underlying40 hi hz0 hz1 hz2 rfl (by decide) _ _ _ rfl (World.ownsRow.alloc HO.out _) ⟨_, 0, none⟩ 1 1 [.string x.n] rfl rfl ?c1 ?h1 (by decide) ?h63 ?hb ?hbase _ rfl ?next)
                  case c1 => exact World.news_of_block (cs := #[.string x.n]) (blk_at (by simp) _)
                  case h1 => intro u hu; simp at hu; subst hu; rfl
                  case h63 => unfold maxLen; omega
                  case hb => omega
                  case hbase => simp; omega
                  case next =>
                    intro g cp w3 hown hgrow hat hlt3
                    have HN : Hid (OwnT w.heap.size w3 (.slice (some ⟨g, 0, none⟩) (T0.length + 1) cp) T1) := by
                      rw [keep.out (by simp [useE, eqS, ht, hs0])]
                      unfold Hid OwnT
                      rw [List.length_append, List.map_append]
                      exact hown
                    have H3 : Hid (Below w.heap.size w w3) := (HW.out.alloc (by have := HW.out.size; simp <;> omega) _).grown hgrow (by have := HW.out.size; simp <;> omega) (fun q hq => (HO.out.lt q hq).1)
                    clear hown hgrow hat
                    go_wp2_with fail
                    go_roundg (gk - 1)
                    case measure => omega
                    case rel => exact ⟨H3.out, k + 1, by omega, by go_num, by rw [HT1.out]; exact HN.out⟩
                · have b0 : (x.s == 0) = false := by simpa using hs0
                  go_wp2_with fail
                  go_roundg (gk - 1)
                  case measure => omega
                  case rel => exact ⟨HW.out, k + 1, by omega, by go_num, by rw [HT1.out, skip.out (by simp [useE, eqS, ht, hs0, hs1])]; exact HO.out⟩
          · have ht' : (x.t.toList == tb.toList) = false := by simpa using ht
            by_cases hs1 : x.s = 1
            · have b1 : (x.s == 1) = true := by simp [hs1]
              go_wp2_with fail
              go_roundg (gk - 1)
              case measure => omega
              case rel => exact ⟨HW.out, k + 1, by omega, by go_num, by rw [HT1.out, skip.out (by simp [useE, eqS, ht])]; exact HO.out⟩
            · have b1 : (x.s == 1) = false := by simpa using hs1
              cases ch with
              | false =>
                go_wp2_with fail
                go_roundg (gk - 1)
                case measure => omega
                case rel => exact ⟨HW.out, k + 1, by omega, by go_num, by rw [HT1.out, skip.out (by simp [useE, eqS, ht])]; exact HO.out⟩
              | true =>
                by_cases hs0 : x.s = 0
                · have b0 : (x.s == 0) = true := by simp [hs0]
                  go_wp2_with fail
                  go_roundg (gk - 1)
                  case measure => omega
                  case rel => exact ⟨HW.out, k + 1, by omega, by go_num, by rw [HT1.out, skip.out (by simp [useE, eqS, ht])]; exact HO.out⟩
                · have b0 : (x.s == 0) = false := by simpa using hs0
                  go_wp2_with fail
                  go_roundg (gk - 1)
                  case measure => omega
                  case rel => exact ⟨HW.out, k + 1, by omega, by go_num, by rw [HT1.out, skip.out (by simp [useE, eqS, ht])]; exact HO.out⟩
        · have hkl : k = l.length := by omega
          subst hkl
          rw [List.take_length] at HO
          rw [← hRe.out] at HO
          clear hd
          go_wp2_with fail
          go_ret
          exact ⟨_, rfl, HO.out, HW.out⟩
  · have hcat' : catB l = false := by simpa using hcat
    have hRe : Hid (R = []) := by unfold Hid; rw [← HR.out]; simp [useR, useOk, hcat']
    clear HR
    go_enter Try.func27, Try.ntmps27
    go_wp2_with fail
    refine (svalidCatalog_any v l _ HA.out).mono ?_
    rintro e w1 ⟨rfl, hb1⟩
    rw [hcat']
    have H1 : Hid (Below w.heap.size w w1) := H0.out.trans (hb1.mono H0.out.size)
    clear hb1
    go_wp2_with fail
    go_ret
    exact ⟨_, rfl, by rw [hRe.out]; exact ownT_nil _ _, H1.out⟩
set_option maxHeartbeats 4000000 in
theorem equalTexts_same (v v' : Value) (ts : List ByteArray) (w : World) (h : Txts w v ts) (h' : Txts w v' ts) :
    Calls Try.prog 26 #[v, v'] w fun x w' => x = .returned (.bool true) ∧ Below w.heap.size w w' := by
  obtain ⟨a, cap, rfl, hl, hcap, hd⟩ := h
  obtain ⟨a', cap', rfl, hl', hcap', hd'⟩ := h'
  go_enter Try.func26, Try.ntmps26
  go_wp2_with fail
  go_loopg [5] ts.length (fun gk s5 wr => Below w.heap.size w wr ∧ ∃ k : Nat, k + gk = ts.length ∧ s5 = .int .i64 (k : Int))
  case atStart => exact ⟨Below.refl _ _, 0, by omega, rfl⟩
  case round =>
    obtain ⟨hbw, k, hk, rfl⟩ := hrel
    have HW := hide hbw
    by_cases hlt : k < ts.length
    · obtain ⟨b, off, rfl, hbb, hcell⟩ := hd.resolve_left (by rintro rfl; simp at hlt)
      obtain ⟨b', off', rfl, hbb', hcell'⟩ := hd'.resolve_left (by rintro rfl; simp at hlt)
      have e0 := (hbw.cell (p := ⟨b, off + k, none⟩) hbb).trans (hcell k hlt)
      have f0 := (hbw.cell (p := ⟨b', off' + k, none⟩) hbb').trans (hcell' k hlt)
      clear hcell hd hcell' hd' hbw
      generalize ts[k] = e at *
      go_wp2_with fail
      go_quiet (fail)
      go_wp2_with fail
      go_roundg (gk - 1)
      case measure => omega
      case rel => exact ⟨below_drewN HW.out _, k + 1, by omega, by go_num⟩
    · clear hd hd' hbw
      go_wp2_with fail
      go_ret
      exact ⟨rfl, HW.out⟩
end Go.Proofs.Yteikeljklfblmaa
