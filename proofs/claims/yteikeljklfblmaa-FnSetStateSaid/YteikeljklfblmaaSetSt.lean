/-
  SetState of the program: one state is another one, in new memory.
-/
import Derived.Test.YteikeljklfblmaaDropL
set_option linter.all false
namespace Go.Proofs.Yteikeljklfblmaa
open Go.RowKit
theorem text_ext {a b : ByteArray} (h : a.toList = b.toList) : a = b := by
  rw [ByteArray.toList_eq, ByteArray.toList_eq] at h
  cases a; cases b
  simp at h
  rw [h]
theorem eqS_eq {a b : ByteArray} (h : eqS a b = true) : a = b := text_ext (by simpa [eqS] using h)
def setAt (l : List Ent) (nm : ByteArray) (st : Int) : Bool := match l[(findI l nm).toNat]? with | some e => !mtB e.t && decide (e.s < st ∧ st ≤ 2) | none => false
def setOk (l : List Ent) (nm : ByteArray) (st : Int) : Bool := catB l && (decide (0 ≤ findI l nm) && setAt l nm st)
def setL (l : List Ent) (k : Nat) (st : Int) : List Ent := match l[k]? with | some e => l.set k ⟨e.n, e.t, st⟩ | none => l
def setR (l : List Ent) (nm : ByteArray) (st : Int) : List Ent := if setOk l nm st then setL l (findI l nm).toNat st else []
theorem setL_len (l : List Ent) (k : Nat) (st : Int) : (setL l k st).length = l.length := by unfold setL; split <;> simp
theorem setL_at {l : List Ent} {k : Nat} (h : k < l.length) (st : Int) : setL l k st = l.set k ⟨l[k].n, l[k].t, st⟩ := by simp [setL, List.getElem?_eq_getElem h]
theorem setR_len (l : List Ent) (nm : ByteArray) (st : Int) : (setR l nm st).length ≤ l.length := by
  unfold setR; split
  · rw [setL_len]; exact Nat.le_refl _
  · simp
theorem setR_sizes {l : List Ent} (h : ∀ e ∈ l, e.n.size ≤ 9223372036854775807 ∧ e.t.size ≤ 9223372036854775807) (nm : ByteArray) (st : Int) : ∀ e ∈ setR l nm st, e.n.size ≤ 9223372036854775807 ∧ e.t.size ≤ 9223372036854775807 := by
  unfold setR; split
  · unfold setL; split
    · rename_i e he
      intro x hx
      rcases List.mem_or_eq_of_mem_set hx with hx | rfl
      · exact h x hx
      · exact h e (List.mem_of_getElem? he)
    · exact h
  · simp
theorem entCells_set (l : List Ent) (k : Nat) (h : k < l.length) (st : Int) : (entCells l).set (k * 3 + 2) (.int .i64 st) = entCells (l.set k ⟨l[k].n, l[k].t, st⟩) := by
  induction l generalizing k with
  | nil => simp at h
  | cons e l ih =>
    have hc : ∀ (e : Ent) (l : List Ent), entCells (e :: l) = .string e.n :: .string e.t :: .int .i64 e.s :: entCells l := fun _ _ => rfl
    cases k with
    | zero => rw [hc]; rfl
    | succ k =>
      rw [List.set_cons_succ, hc, hc, show (k + 1) * 3 + 2 = k * 3 + 2 + 3 from by omega]
      simp only [List.set_cons_succ]
      rw [ih k (by simpa using h)]
      rfl
theorem entCells_set3 (l : List Ent) (k : Nat) (h : k < l.length) (st : Int) : (((entCells l).set (k * 3) (.string l[k].n)).set (k * 3 + 1) (.string l[k].t)).set (k * 3 + 2) (.int .i64 st) = entCells (l.set k ⟨l[k].n, l[k].t, st⟩) := by
  obtain ⟨h0, h1, -⟩ := entCells_at l k h
  have hz := entCells_len l
  have e0 : (entCells l).set (k * 3) (.string l[k].n) = entCells l := by
    apply List.ext_getElem?
    intro j
    rw [List.getElem?_set]
    split
    · rename_i hj; subst hj; rw [if_pos (by omega), h0]
    · rfl
  have e1 : (entCells l).set (k * 3 + 1) (.string l[k].t) = entCells l := by
    apply List.ext_getElem?
    intro j
    rw [List.getElem?_set]
    split
    · rename_i hj; subst hj; rw [if_pos (by omega), h1]
    · rfl
  rw [e0, e1]
  exact entCells_set l k h st
theorem findI_len (l : List Ent) (nm : ByteArray) : findI l nm < (l.length : Int) ∨ findI l nm = -1 := by
  rcases findI_cases l nm with ⟨k, hk, hf, -⟩ | ⟨hf, -⟩
  · exact .inl (by rw [hf]; omega)
  · exact .inr hf
def CatRet (w : World) (ok : Bool) (R : List Ent) (e : Ending) (w' : World) : Prop := ∃ v', e = .returned (.tuple #[v', .bool ok]) ∧ OwnE w.heap.size w' v' R ∧ Below w.heap.size w w'
theorem catRet_no {w w' : World} (h : Below w.heap.size w w') : CatRet w false [] (.returned (.tuple #[.slice none 0 0, .bool false])) w' := ⟨_, rfl, World.ownsRow_nil _ _ _ _, h⟩
set_option maxHeartbeats 4000000 in
theorem iSetState_any (nm : ByteArray) (st : Int) (v : Value) (l : List Ent) (w : World) (h : Ents w v l) :
    Calls Try.prog 32 #[v, .string nm, .int .i64 st] w (CatRet w (setOk l nm st) (setR l nm st)) := by
  have HE := hide h
  clear h
  obtain ⟨ok, hok⟩ : ∃ ok, setOk l nm st = ok := ⟨_, rfl⟩
  obtain ⟨R, hR⟩ : ∃ R, R = if ok then setL l (findI l nm).toNat st else [] := ⟨_, rfl⟩
  rw [setR, hok, ← hR]
  have HR0 := hide hR
  clear hR
  by_cases hcat : catB l = true
  · have hlen : l.length ≤ 12 := (of_decide_eq_true hcat).1
    have CV := hide (fun w (h : Ents w v l) => ivalidCatalog_any v l w h)
    unfold setOk at hok
    rw [hcat] at hok
    rw [hcat] at CV
    rcases findI_cases l nm with ⟨k, hk, hf, -, hq, -⟩ | ⟨hf, -⟩
    · have CF := hide (fun w (h : Ents w v l) => findEntry_any nm v l w h)
      rw [hf] at CF
      unfold setAt at hok
      rw [hf] at hok
      simp only [Int.toNat_natCast, List.getElem?_eq_getElem hk] at hok
      have HF := hide hf
      clear hcat hf hq
      obtain ⟨i0, hi, hz0, hz1, hz2⟩ := info_parts infoE
      go_enter Try.func32, Try.ntmps32
      go_wp2_with fail
      refine (CV.out w HE.out).mono ?_
      rintro e w1 ⟨rfl, hb1⟩
      have E1 := hide (HE.out.keep hb1)
      have H1 := hide hb1
      clear hb1
      go_wp2_with fail
      refine (CF.out w1 E1.out).mono ?_
      rintro e w2 ⟨rfl, hb2⟩
      have E2 := hide (E1.out.keep hb2)
      have H2 : Hid (Below w.heap.size w w2) := H1.out.trans (hb2.mono H1.out.size)
      clear hb2
      obtain ⟨a, cap, rfl, hl, hcap, hd⟩ := E2.out
      obtain ⟨b, off, rfl, hbb, hcell⟩ := hd.resolve_left (by rintro rfl; simp at hk)
      have EC := hide (hcell k hk)
      obtain ⟨e0, e1, e2, -⟩ := hcell k hk
      clear hcell hd
      have HR := hide (setL_at hk st)
      have HS := hide (entCells_set l k hk st)
      generalize l[k] = x at *
      have hk12 : k ≤ 11 := by omega
      have g0 : ¬ ((k : Int) < 0) := by omega
      have g0' : decide ((k : Int) < 0) = false := decide_eq_false g0
      go_wp2_with fail
      refine (isTableM_any _ _ _ _).mono ?_
      rintro e w3 ⟨rfl, hb3⟩
      have E3 := hide (E2.out.keep hb3)
      obtain ⟨d0, d1, d2, -⟩ := EC.out.keep hb3
      have H3 : Hid (Below w.heap.size w w3) := H2.out.trans (hb3.mono H2.out.size)
      clear hb3 e0 e1 e2
      by_cases ht : mtB x.t = true
      · rw [ht]
        have hok' : ok = false := by rw [← hok, ht]; simp
        subst hok'
        clear hok
        go_wp2_with fail
        all_goals go_tidy
        refine ⟨rfl, .tuple #[.slice none 0 0, .bool false], by simp [results, Try.results32, go_sem], (HR0.out ▸ catRet_no H3.out)⟩
      · have ht' : mtB x.t = false := by simpa using ht
        rw [ht']
        rw [ht'] at hok
        clear ht
        by_cases hs1 : st ≤ x.s
        · have g1' : decide (st ≤ x.s) = true := decide_eq_true hs1
          have hok' : ok = false := by rw [← hok]; simp; intro; omega
          subst hok'
          clear hok
          go_wp2_with fail
          all_goals go_tidy
          refine ⟨rfl, .tuple #[.slice none 0 0, .bool false], by simp [results, Try.results32, go_sem], (HR0.out ▸ catRet_no H3.out)⟩
        · have g1' : decide (st ≤ x.s) = false := decide_eq_false hs1
          by_cases hs2 : 2 < st
          · have g2' : decide (2 < st) = true := decide_eq_true hs2
            have hok' : ok = false := by rw [← hok]; simp; intro; omega
            subst hok'
            clear hok
            go_wp2_with fail
            all_goals go_tidy
            refine ⟨rfl, .tuple #[.slice none 0 0, .bool false], by simp [results, Try.results32, go_sem], (HR0.out ▸ catRet_no H3.out)⟩
          · have g2' : decide (2 < st) = false := decide_eq_false hs2
            have hok' : ok = true := by rw [← hok]; simp; omega
            subst hok'
            clear hok
            have HFT : Hid ((findI l nm).toNat = k) := by have := HF.out; unfold Hid; omega
            go_wp2_with fail
            refine (clone_any _ l w3 E3.out (by omega)).mono ?_
            rintro e w4 ⟨v4, rfl, ho, hb4⟩
            have H4 : Hid (Below w.heap.size w w4) := H3.out.trans (hb4.mono H3.out.size)
            have hz3 := H3.out.size
            clear hb4
            obtain ⟨g4, cap4, rfl, hg4, hl4⟩ := World.ownsRow.form ho (by omega)
            have HO := hide ho
            obtain ⟨u2, x2⟩ : ∃ u, w4.cell? ⟨g4, k * 3 + 2, none⟩ = some u := ⟨_, by rw [World.ownsRow.cellAt ho _ (by omega)]; exact List.getElem?_eq_getElem (by rw [entCells_len]; omega)⟩
            have f2 := World.ownsRow.frozenAt ho (k * 3 + 2)
            have ST := hide (World.ownsRow.stored ho (k * 3 + 2) (.int .i64 st))
            have hcap4 : l.length ≤ cap4 ∧ cap4 ≤ 9223372036854775807 := by
              rcases ho.2 with ⟨h', _⟩ | ⟨g', cap', cur, h', _, _, h1, h2, _⟩
              · cases h'
              · cases h'; exact ⟨h1, h2⟩
            clear ho
            go_wp2_with fail
            all_goals go_tidy
            refine ⟨rfl, .tuple #[.slice (some ⟨g4, 0, none⟩) l.length cap4, .bool true], by simp [results, Try.results32, go_sem], ⟨_, rfl, ?_, ?_⟩⟩
            · rw [HR0.out]
              (first | rw [if_pos trivial] | rw [if_pos rfl])
              rw [HFT.out, HR.out]
              unfold OwnE
              rw [List.length_set, ← HS.out]
              exact own_mono ST.out.1 hz3
            · exact H4.out.grown ST.out.2 H4.out.size (fun q hq => by cases hq; omega)
    · have CF := hide (fun w (h : Ents w v l) => findEntry_any nm v l w h)
      rw [hf] at CF
      have hok' : ok = false := by rw [← hok, hf]; simp
      subst hok'
      clear hok hcat hf
      go_enter Try.func32, Try.ntmps32
      go_wp2_with fail
      refine (CV.out w HE.out).mono ?_
      rintro e w1 ⟨rfl, hb1⟩
      have E1 := hide (HE.out.keep hb1)
      have H1 := hide hb1
      clear hb1
      go_wp2_with fail
      refine (CF.out w1 E1.out).mono ?_
      rintro e w2 ⟨rfl, hb2⟩
      have H2 : Hid (Below w.heap.size w w2) := H1.out.trans (hb2.mono H1.out.size)
      clear hb2
      go_wp2_with fail
      all_goals go_tidy
      refine ⟨rfl, .tuple #[.slice none 0 0, .bool false], by simp [results, Try.results32, go_sem], (HR0.out ▸ catRet_no H2.out)⟩
  · have hcat' : catB l = false := by simpa using hcat
    have hok' : ok = false := by rw [← hok, setOk, hcat']; rfl
    subst hok'
    clear hok
    go_enter Try.func32, Try.ntmps32
    go_wp2_with fail
    refine (ivalidCatalog_any v l w HE.out).mono ?_
    rintro e w1 ⟨rfl, hb1⟩
    rw [hcat']
    have H1 := hide hb1
    clear hb1
    go_wp2_with fail
    all_goals go_tidy
    refine ⟨rfl, .tuple #[.slice none 0 0, .bool false], by simp [results, Try.results32, go_sem], (HR0.out ▸ catRet_no H1.out)⟩
end Go.Proofs.Yteikeljklfblmaa
