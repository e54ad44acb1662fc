/-
  ValidCatalog of the program and of the reference: one Bool.
-/
import Derived.Test.YteikeljklfblmaaCat
set_option linter.all false
namespace Go.Proofs.Yteikeljklfblmaa
open Go.RowKit
theorem cells3 {w : World} {b : Nat} {t : TypeId} {a0 a1 a2 : Value} (h : w.heap[b]? = some (.cells #[a0, a1, a2] t (0, 0))) :
    (w.cell? ⟨b, 0, none⟩ = some a0 ∧ w.cell? ⟨b, 1, none⟩ = some a1 ∧ w.cell? ⟨b, 2, none⟩ = some a2) ∧ (w.frozen? ⟨b, 0, none⟩ = false ∧ w.frozen? ⟨b, 1, none⟩ = false ∧ w.frozen? ⟨b, 2, none⟩ = false) := by
  simp [World.cell?, World.frozen?, h]
def entOK (l : List Ent) (i : Nat) (e : Ent) : Bool := nameB e.n && decide (findI l e.n = (i : Int)) && (if mtB e.t then decide (e.s = 1) else (hasTB l e.t && decide (0 ≤ e.s ∧ e.s ≤ 2)))
def catB (l : List Ent) : Bool := decide (l.length ≤ 12 ∧ ∀ i (h : i < l.length), entOK l i l[i] = true)
theorem cat_len {l : List Ent} (h : ¬ l.length ≤ 12) : catB l = false := decide_eq_false fun hh => h hh.1
theorem cat_bad {l : List Ent} {k : Nat} (h : k < l.length) (hb : entOK l k l[k] = false) : catB l = false := decide_eq_false fun hh => by have := hh.2 k h; rw [hb] at this; cases this
theorem cat_good {l : List Ent} (h : l.length ≤ 12) (ha : ∀ i (h : i < l.length), entOK l i l[i] = true) : catB l = true := decide_eq_true ⟨h, ha⟩
theorem cat_of {l : List Ent} (h : catB l = true) : l.length ≤ 12 ∧ ∀ i (h : i < l.length), entOK l i l[i] = true := of_decide_eq_true h

set_option maxHeartbeats 4000000 in
theorem ivalidCatalog_any (v : Value) (l : List Ent) (w : World) (h : Ents w v l) :
    Calls Try.prog 15 #[v] w fun e w' => e = .returned (.bool (catB l)) ∧ Below w.heap.size w w' := by
  have HE := hide h
  obtain ⟨a, cap, rfl, hl, hcap, hd⟩ := h
  by_cases hlen : l.length ≤ 12
  · go_enter Try.func15, Try.ntmps15
    go_wp2_with fail
    go_loopg [10] l.length (fun gk s10 wr => Below w.heap.size w wr ∧ ∃ k : Nat, k + gk = l.length ∧ s10 = .int .i64 (k : Int) ∧ ∀ j (hj : j < k) (hl : j < l.length), entOK l j l[j] = true)
    case atStart => exact ⟨Below.refl _ _, 0, by omega, rfl, fun j hj => by omega⟩
    case round =>
      obtain ⟨hbw, k, hk, rfl, hno⟩ := hrel
      have HW := hide hbw
      have HN := hide hno
      clear hno
      by_cases hlt : k < l.length
      · obtain ⟨b, off, rfl, hbb, hcell⟩ := hd.resolve_left (by rintro rfl; simp at hlt)
        obtain ⟨e0, e1, e2, -⟩ := (hcell k hlt).keep hbw
        have HB := hide (@cat_bad l k hlt)
        have HN' : Hid (entOK l k l[k] = true → ∀ j (hj : j < k + 1) (hl : j < l.length), entOK l j l[j] = true) := fun he j hj hl => by
          by_cases hjk : j = k
          · subst hjk; exact he
          · exact HN.out j (by omega) hl
        clear hcell hd hbw
        generalize l[k] = e at *
        have B0 := hide (blk_alloc wr (.cells #[.string e.n, .string e.t, .int .i64 e.s] 27))
        have HX : Hid (Below w.heap.size w (wr.alloc (.cells #[.string e.n, .string e.t, .int .i64 e.s] 27))) := HW.out.alloc HW.out.size _
        cases hn : nameB e.n with
        | false =>
          have HF : Hid (catB l = false) := HB.out (by simp [entOK, hn])
          go_wp2_with fail
          refine (ivalidName_any _ _).mono ?_
          rintro e' w' ⟨rfl, rfl⟩
          go_wp2_with fail
          go_ret
          exact ⟨ret_bool HF.out.symm, HX.out⟩
        | true =>
          by_cases hf : findI l e.n = (k : Int)
          · cases ht : mtB e.t with
            | true =>
              by_cases hs : e.s = 1
              · have HN2 : Hid (∀ j (hj : j < k + 1) (hl : j < l.length), entOK l j l[j] = true) := HN'.out (by simp [entOK, hn, hf, ht, hs])
                have hs1 : (e.s != 1) = false := by simp [hs]
                clear hs
                go_wp2_with fail
                refine (ivalidName_any _ _).mono ?_
                rintro e' w' ⟨rfl, rfl⟩
                go_wp2_with fail
                refine (findEntry_any e.n _ l _ (HE.out.keep HX.out)).mono ?_
                rintro e' w1 ⟨rfl, hb1⟩
                have B1 := hide (blk_own hb1 B0.out)
                have H1 : Hid (Below w.heap.size w w1) := HX.out.trans (hb1.mono HX.out.size)
                obtain ⟨⟨c0, c1, c2⟩, -⟩ := cells3 B1.out
                clear hb1
                go_wp2_with fail
                refine (isTableM_any _ _ _ _).mono ?_
                rintro e' w2 ⟨rfl, hb2⟩
                have B2 := hide (blk_own hb2 B1.out)
                have H2 : Hid (Below w.heap.size w w2) := H1.out.trans (hb2.mono H1.out.size)
                clear c0 c1 c2 hb2
                obtain ⟨⟨c0, c1, c2⟩, -⟩ := cells3 B2.out
                go_wp2_with fail
                go_roundg (gk - 1)
                case measure => omega
                case rel => exact ⟨H2.out, k + 1, by omega, by go_num, HN2.out⟩
              · have HF : Hid (catB l = false) := HB.out (by simp [entOK, hn, hf, ht, hs])
                have hs1 : (e.s != 1) = true := by simpa using hs
                clear hs
                go_wp2_with fail
                refine (ivalidName_any _ _).mono ?_
                rintro e' w' ⟨rfl, rfl⟩
                go_wp2_with fail
                refine (findEntry_any e.n _ l _ (HE.out.keep HX.out)).mono ?_
                rintro e' w1 ⟨rfl, hb1⟩
                have B1 := hide (blk_own hb1 B0.out)
                have H1 : Hid (Below w.heap.size w w1) := HX.out.trans (hb1.mono HX.out.size)
                obtain ⟨⟨c0, c1, c2⟩, -⟩ := cells3 B1.out
                clear hb1
                go_wp2_with fail
                refine (isTableM_any _ _ _ _).mono ?_
                rintro e' w2 ⟨rfl, hb2⟩
                have B2 := hide (blk_own hb2 B1.out)
                have H2 : Hid (Below w.heap.size w w2) := H1.out.trans (hb2.mono H1.out.size)
                clear c0 c1 c2 hb2
                obtain ⟨⟨c0, c1, c2⟩, -⟩ := cells3 B2.out
                go_wp2_with fail
                go_ret
                exact ⟨ret_bool HF.out.symm, H2.out⟩
            | false =>
              cases hh : hasTB l e.t with
              | false =>
                have HF : Hid (catB l = false) := HB.out (by simp [entOK, hn, hf, ht, hh])
                go_wp2_with fail
                refine (ivalidName_any _ _).mono ?_
                rintro e' w' ⟨rfl, rfl⟩
                go_wp2_with fail
                refine (findEntry_any e.n _ l _ (HE.out.keep HX.out)).mono ?_
                rintro e' w1 ⟨rfl, hb1⟩
                have B1 := hide (blk_own hb1 B0.out)
                have H1 : Hid (Below w.heap.size w w1) := HX.out.trans (hb1.mono HX.out.size)
                obtain ⟨⟨c0, c1, c2⟩, -⟩ := cells3 B1.out
                clear hb1
                go_wp2_with fail
                refine (isTableM_any _ _ _ _).mono ?_
                rintro e' w2 ⟨rfl, hb2⟩
                have B2 := hide (blk_own hb2 B1.out)
                have H2 : Hid (Below w.heap.size w w2) := H1.out.trans (hb2.mono H1.out.size)
                clear c0 c1 c2 hb2
                obtain ⟨⟨c0, c1, c2⟩, -⟩ := cells3 B2.out
                go_wp2_with fail
                refine (hasTable_any e.t _ l _ (HE.out.keep H2.out)).mono ?_
                rintro e' w3 ⟨rfl, hb3⟩
                have B3 := hide (blk_own hb3 B2.out)
                have H3 : Hid (Below w.heap.size w w3) := H2.out.trans (hb3.mono H2.out.size)
                clear c0 c1 c2 hb3
                obtain ⟨⟨c0, c1, c2⟩, -⟩ := cells3 B3.out
                go_wp2_with fail
                go_ret
                exact ⟨ret_bool HF.out.symm, H3.out⟩
              | true =>
                by_cases hs : e.s < 0
                · have HF : Hid (catB l = false) := HB.out (by simp [entOK, hn, hf, ht, hh]; omega)
                  go_wp2_with fail
                  refine (ivalidName_any _ _).mono ?_
                  rintro e' w' ⟨rfl, rfl⟩
                  go_wp2_with fail
                  refine (findEntry_any e.n _ l _ (HE.out.keep HX.out)).mono ?_
                  rintro e' w1 ⟨rfl, hb1⟩
                  have B1 := hide (blk_own hb1 B0.out)
                  have H1 : Hid (Below w.heap.size w w1) := HX.out.trans (hb1.mono HX.out.size)
                  obtain ⟨⟨c0, c1, c2⟩, -⟩ := cells3 B1.out
                  clear hb1
                  go_wp2_with fail
                  refine (isTableM_any _ _ _ _).mono ?_
                  rintro e' w2 ⟨rfl, hb2⟩
                  have B2 := hide (blk_own hb2 B1.out)
                  have H2 : Hid (Below w.heap.size w w2) := H1.out.trans (hb2.mono H1.out.size)
                  clear c0 c1 c2 hb2
                  obtain ⟨⟨c0, c1, c2⟩, -⟩ := cells3 B2.out
                  go_wp2_with fail
                  refine (hasTable_any e.t _ l _ (HE.out.keep H2.out)).mono ?_
                  rintro e' w3 ⟨rfl, hb3⟩
                  have B3 := hide (blk_own hb3 B2.out)
                  have H3 : Hid (Below w.heap.size w w3) := H2.out.trans (hb3.mono H2.out.size)
                  clear c0 c1 c2 hb3
                  obtain ⟨⟨c0, c1, c2⟩, -⟩ := cells3 B3.out
                  go_wp2_with fail
                  go_ret
                  exact ⟨ret_bool HF.out.symm, H3.out⟩
                · have hs0 : 0 ≤ e.s := by omega
                  clear hs
                  by_cases hs : e.s ≤ 2
                  · have HN2 : Hid (∀ j (hj : j < k + 1) (hl : j < l.length), entOK l j l[j] = true) := HN'.out (by simp [entOK, hn, hf, ht, hh, hs0, hs])
                    go_wp2_with fail
                    refine (ivalidName_any _ _).mono ?_
                    rintro e' w' ⟨rfl, rfl⟩
                    go_wp2_with fail
                    refine (findEntry_any e.n _ l _ (HE.out.keep HX.out)).mono ?_
                    rintro e' w1 ⟨rfl, hb1⟩
                    have B1 := hide (blk_own hb1 B0.out)
                    have H1 : Hid (Below w.heap.size w w1) := HX.out.trans (hb1.mono HX.out.size)
                    obtain ⟨⟨c0, c1, c2⟩, -⟩ := cells3 B1.out
                    clear hb1
                    go_wp2_with fail
                    refine (isTableM_any _ _ _ _).mono ?_
                    rintro e' w2 ⟨rfl, hb2⟩
                    have B2 := hide (blk_own hb2 B1.out)
                    have H2 : Hid (Below w.heap.size w w2) := H1.out.trans (hb2.mono H1.out.size)
                    clear c0 c1 c2 hb2
                    obtain ⟨⟨c0, c1, c2⟩, -⟩ := cells3 B2.out
                    go_wp2_with fail
                    refine (hasTable_any e.t _ l _ (HE.out.keep H2.out)).mono ?_
                    rintro e' w3 ⟨rfl, hb3⟩
                    have B3 := hide (blk_own hb3 B2.out)
                    have H3 : Hid (Below w.heap.size w w3) := H2.out.trans (hb3.mono H2.out.size)
                    clear c0 c1 c2 hb3
                    obtain ⟨⟨c0, c1, c2⟩, -⟩ := cells3 B3.out
                    go_wp2_with fail
                    go_roundg (gk - 1)
                    case measure => omega
                    case rel => exact ⟨H3.out, k + 1, by omega, by go_num, HN2.out⟩
                  · have hs' : 2 < e.s := by omega
                    clear hs
                    have HF : Hid (catB l = false) := HB.out (by simp [entOK, hn, hf, ht, hh]; omega)
                    go_wp2_with fail
                    refine (ivalidName_any _ _).mono ?_
                    rintro e' w' ⟨rfl, rfl⟩
                    go_wp2_with fail
                    refine (findEntry_any e.n _ l _ (HE.out.keep HX.out)).mono ?_
                    rintro e' w1 ⟨rfl, hb1⟩
                    have B1 := hide (blk_own hb1 B0.out)
                    have H1 : Hid (Below w.heap.size w w1) := HX.out.trans (hb1.mono HX.out.size)
                    obtain ⟨⟨c0, c1, c2⟩, -⟩ := cells3 B1.out
                    clear hb1
                    go_wp2_with fail
                    refine (isTableM_any _ _ _ _).mono ?_
                    rintro e' w2 ⟨rfl, hb2⟩
                    have B2 := hide (blk_own hb2 B1.out)
                    have H2 : Hid (Below w.heap.size w w2) := H1.out.trans (hb2.mono H1.out.size)
                    clear c0 c1 c2 hb2
                    obtain ⟨⟨c0, c1, c2⟩, -⟩ := cells3 B2.out
                    go_wp2_with fail
                    refine (hasTable_any e.t _ l _ (HE.out.keep H2.out)).mono ?_
                    rintro e' w3 ⟨rfl, hb3⟩
                    have B3 := hide (blk_own hb3 B2.out)
                    have H3 : Hid (Below w.heap.size w w3) := H2.out.trans (hb3.mono H2.out.size)
                    clear c0 c1 c2 hb3
                    obtain ⟨⟨c0, c1, c2⟩, -⟩ := cells3 B3.out
                    go_wp2_with fail
                    go_ret
                    exact ⟨ret_bool HF.out.symm, H3.out⟩
          · have HF : Hid (catB l = false) := HB.out (by simp [entOK, hn, hf])
            go_wp2_with fail
            refine (ivalidName_any _ _).mono ?_
            rintro e' w' ⟨rfl, rfl⟩
            go_wp2_with fail
            refine (findEntry_any e.n _ l _ (HE.out.keep HX.out)).mono ?_
            rintro e' w1 ⟨rfl, hb1⟩
            have B1 := hide (blk_own hb1 B0.out)
            have H1 : Hid (Below w.heap.size w w1) := HX.out.trans (hb1.mono HX.out.size)
            obtain ⟨⟨c0, c1, c2⟩, -⟩ := cells3 B1.out
            clear hb1
            go_wp2_with fail
            go_ret
            exact ⟨ret_bool HF.out.symm, H1.out⟩
      · have hkl : k = l.length := by omega
        have HT := hide (cat_good hlen fun i hi => HN.out i (by omega) hi)
        clear hd hkl hbw
        go_wp2_with fail
        go_ret
        exact ⟨ret_bool HT.out.symm, HW.out⟩
  · have HF := hide (cat_len hlen)
    clear hd
    go_enter Try.func15, Try.ntmps15
    go_wp2_with fail
    go_ret
    exact ⟨ret_bool HF.out.symm, Below.refl _ _⟩

set_option maxHeartbeats 4000000 in
theorem svalidCatalog_any (v : Value) (l : List Ent) (w : World) (h : Ents w v l) :
    Calls Try.prog 44 #[v] w fun e w' => e = .returned (.bool (catB l)) ∧ Below w.heap.size w w' := by
  have HE := hide h
  obtain ⟨a, cap, rfl, hl, hcap, hd⟩ := h
  go_enter Try.func44, Try.ntmps44
  go_wp2_with fail
  go_loopg [3] l.length (fun gk s10 wr => Below w.heap.size w wr ∧ ∃ k : Nat, k + gk = l.length ∧ s10 = .int .i64 (k : Int) ∧ ∀ j (hj : j < k) (hl : j < l.length), entOK l j l[j] = true)
  case atStart => exact ⟨Below.refl _ _, 0, by omega, rfl, fun j hj => by omega⟩
  case round =>
      obtain ⟨hbw, k, hk, rfl, hno⟩ := hrel
      have HW := hide hbw
      have HN := hide hno
      clear hno
      by_cases hlt : k < l.length
      · obtain ⟨b, off, rfl, hbb, hcell⟩ := hd.resolve_left (by rintro rfl; simp at hlt)
        obtain ⟨e0, e1, e2, hz, -⟩ := (hcell k hlt).keep hbw
        have HB := hide (@cat_bad l k hlt)
        have HN' : Hid (entOK l k l[k] = true → ∀ j (hj : j < k + 1) (hl : j < l.length), entOK l j l[j] = true) := fun he j hj hl => by
          by_cases hjk : j = k
          · subst hjk; exact he
          · exact HN.out j (by omega) hl
        clear hcell hd hbw
        generalize l[k] = e at *
        have HX : Hid (Below w.heap.size w (wr.alloc (.cells #[.string e.n, .string e.t, .int .i64 e.s] 27))) := HW.out.alloc HW.out.size _
        cases hn : nameB e.n with
        | false =>
          have HF : Hid (catB l = false) := HB.out (by simp [entOK, hn])
          go_wp2_with fail
          refine (svalidName_any _ _ hz).mono ?_
          rintro e' w' ⟨rfl, rfl⟩
          go_wp2_with fail
          go_ret
          exact ⟨ret_bool HF.out.symm, HX.out⟩
        | true =>
          by_cases hf : findI l e.n = (k : Int)
          · by_cases hr : 0 ≤ e.s ∧ e.s ≤ 2
            · cases ht : mtB e.t with
              | true =>
                by_cases hs : e.s = 1
                · have HN2 : Hid (∀ j (hj : j < k + 1) (hl : j < l.length), entOK l j l[j] = true) := HN'.out (by simp [entOK, hn, hf, ht, hs])
                  have HR := hide hr
                  clear hr
                  have hs1 : (e.s != 1) = false := by simp [hs]
                  clear hs
                  have ht2 := ht
                  unfold mtB at ht2
                  go_wp2_with fail
                  refine (svalidName_any _ _ hz).mono ?_
                  rintro e' w' ⟨rfl, rfl⟩
                  go_wp2_with fail
                  refine (sfind_any e.n _ l _ (HE.out.keep HX.out)).mono ?_
                  rintro e' w1 ⟨rfl, rfl⟩
                  go_wp2_with fail
                  refine (inRange_yes _ _ _ _ HR.out.1 HR.out.2).mono ?_
                  rintro e' w1 ⟨rfl, rfl⟩
                  go_wp2_with fail
                  go_roundg (gk - 1)
                  case measure => omega
                  case rel => exact ⟨HX.out, k + 1, by omega, by go_num, HN2.out⟩
                · have HF : Hid (catB l = false) := HB.out (by simp [entOK, hn, hf, ht, hs])
                  have HR := hide hr
                  clear hr
                  have hs1 : (e.s != 1) = true := by simpa using hs
                  clear hs
                  have ht2 := ht
                  unfold mtB at ht2
                  go_wp2_with fail
                  refine (svalidName_any _ _ hz).mono ?_
                  rintro e' w' ⟨rfl, rfl⟩
                  go_wp2_with fail
                  refine (sfind_any e.n _ l _ (HE.out.keep HX.out)).mono ?_
                  rintro e' w1 ⟨rfl, rfl⟩
                  go_wp2_with fail
                  refine (inRange_yes _ _ _ _ HR.out.1 HR.out.2).mono ?_
                  rintro e' w1 ⟨rfl, rfl⟩
                  go_wp2_with fail
                  go_ret
                  exact ⟨ret_bool HF.out.symm, HX.out⟩
              | false =>
                cases hh : hasTB l e.t with
                | false =>
                  have HF : Hid (catB l = false) := HB.out (by simp [entOK, hn, hf, ht, hh])
                  have HR := hide hr
                  clear hr
                  have ht2 := ht
                  unfold mtB at ht2
                  go_wp2_with fail
                  refine (svalidName_any _ _ hz).mono ?_
                  rintro e' w' ⟨rfl, rfl⟩
                  go_wp2_with fail
                  refine (sfind_any e.n _ l _ (HE.out.keep HX.out)).mono ?_
                  rintro e' w1 ⟨rfl, rfl⟩
                  go_wp2_with fail
                  refine (inRange_yes _ _ _ _ HR.out.1 HR.out.2).mono ?_
                  rintro e' w1 ⟨rfl, rfl⟩
                  go_wp2_with fail
                  refine (sisTable_any e.t _ l _ (HE.out.keep HX.out)).mono ?_
                  rintro e' w1 ⟨rfl, rfl⟩
                  go_wp2_with fail
                  go_ret
                  exact ⟨ret_bool HF.out.symm, HX.out⟩
                | true =>
                  have HN2 : Hid (∀ j (hj : j < k + 1) (hl : j < l.length), entOK l j l[j] = true) := HN'.out (by simp [entOK, hn, hf, ht, hh, hr])
                  have HR := hide hr
                  clear hr
                  have ht2 := ht
                  unfold mtB at ht2
                  go_wp2_with fail
                  refine (svalidName_any _ _ hz).mono ?_
                  rintro e' w' ⟨rfl, rfl⟩
                  go_wp2_with fail
                  refine (sfind_any e.n _ l _ (HE.out.keep HX.out)).mono ?_
                  rintro e' w1 ⟨rfl, rfl⟩
                  go_wp2_with fail
                  refine (inRange_yes _ _ _ _ HR.out.1 HR.out.2).mono ?_
                  rintro e' w1 ⟨rfl, rfl⟩
                  go_wp2_with fail
                  refine (sisTable_any e.t _ l _ (HE.out.keep HX.out)).mono ?_
                  rintro e' w1 ⟨rfl, rfl⟩
                  go_wp2_with fail
                  go_roundg (gk - 1)
                  case measure => omega
                  case rel => exact ⟨HX.out, k + 1, by omega, by go_num, HN2.out⟩
            · have HF : Hid (catB l = false) := HB.out (by
              unfold entOK; rw [hn, decide_eq_true hf, Bool.true_and, Bool.true_and]; split
              · rw [decide_eq_false]; omega
              · rw [decide_eq_false hr, Bool.and_false])
              have HR := hide hr
              clear hr
              go_wp2_with fail
              refine (svalidName_any _ _ hz).mono ?_
              rintro e' w' ⟨rfl, rfl⟩
              go_wp2_with fail
              refine (sfind_any e.n _ l _ (HE.out.keep HX.out)).mono ?_
              rintro e' w1 ⟨rfl, rfl⟩
              go_wp2_with fail
              refine (inRange_no _ _ _ _ HR.out).mono ?_
              rintro e' w1 ⟨rfl, rfl⟩
              go_wp2_with fail
              go_ret
              exact ⟨ret_bool HF.out.symm, HX.out⟩
          · have HF : Hid (catB l = false) := HB.out (by simp [entOK, hn, hf])
            go_wp2_with fail
            refine (svalidName_any _ _ hz).mono ?_
            rintro e' w' ⟨rfl, rfl⟩
            go_wp2_with fail
            refine (sfind_any e.n _ l _ (HE.out.keep HX.out)).mono ?_
            rintro e' w1 ⟨rfl, rfl⟩
            go_wp2_with fail
            go_ret
            exact ⟨ret_bool HF.out.symm, HX.out⟩
      · have hkl : k = l.length := by omega
        have HT : Hid (catB l = decide ((l.length : Int) ≤ 12)) := by
          by_cases h12 : l.length ≤ 12
          · unfold Hid; rw [cat_good h12 fun i hi => HN.out i (by omega) hi, decide_eq_true (by omega)]
          · unfold Hid; rw [cat_len h12, decide_eq_false (by omega)]
        clear hd hkl hbw
        go_wp2_with fail
        go_ret
        exact ⟨ret_bool HT.out.symm, HW.out⟩
theorem sValidCatalog_any (v : Value) (l : List Ent) (w : World) (h : Ents w v l) :
    Calls Try.prog 16 #[v] w fun e w' => e = .returned (.bool (catB l)) ∧ Below w.heap.size w w' := by
  have CF := hide (svalidCatalog_any v l w h)
  obtain ⟨a, cap, rfl, hl, hcap, hd⟩ := h
  clear hd
  go_enter Try.func16, Try.ntmps16
  go_wp2_with fail
  refine CF.out.mono ?_
  rintro e w1 ⟨rfl, hb1⟩
  have H1 := hide hb1
  clear hb1
  go_wp2_with fail
  go_ret
  exact ⟨rfl, H1.out⟩

end Go.Proofs.Yteikeljklfblmaa
