/-
  SetState of the specification.
-/
import Derived.Test.YteikeljklfblmaaSetSt
set_option linter.all false
namespace Go.Proofs.Yteikeljklfblmaa
open Go.RowKit
theorem cat_state {l : List Ent} (h : catB l = true) {k : Nat} (hk : k < l.length) : 0 ≤ l[k].s ∧ l[k].s ≤ 2 := by
  have := (cat_of h).2 k hk
  unfold entOK at this
  by_cases ht : mtB l[k].t = true
  · simp [ht] at this; omega
  · simp [ht] at this; omega
theorem row_caps {B : Nat} {w : World} {g n cap size : Nat} {e : TypeId} {xs : List Value} (ho : w.ownsRow B e size (.slice (some ⟨g, 0, none⟩) n cap) n xs) : n ≤ cap ∧ cap ≤ 9223372036854775807 := by
  rcases ho.2 with ⟨h', _⟩ | ⟨g', cap', cur, h', _, _, h1, h2, _⟩
  · cases h'
  · cases h'; exact ⟨h1, h2⟩
set_option maxHeartbeats 4000000 in
theorem sSetState_any (nm : ByteArray) (st : Int) (v : Value) (l : List Ent) (w : World) (h : Ents w v l) :
    Calls Try.prog 33 #[v, .string nm, .int .i64 st] w (CatRet w (setOk l nm st) (setR l nm st)) := by
  have HE := hide h
  clear h
  obtain ⟨ok, hok⟩ : ∃ ok, setOk l nm st = ok := ⟨_, rfl⟩
  obtain ⟨R, hR⟩ : ∃ R, R = if ok then setL l (findI l nm).toNat st else [] := ⟨_, rfl⟩
  rw [setR, hok, ← hR]
  have HR0 := hide hR
  clear hR
  have CV := hide (fun w (h : Ents w v l) => svalidCatalog_any v l w h)
  have CF := hide (fun w (h : Ents w v l) => sfind_any nm v l w h)
  by_cases hcat : catB l = true
  · have hlen : l.length ≤ 12 := (of_decide_eq_true hcat).1
    unfold setOk at hok
    rw [hcat] at hok
    rw [hcat] at CV
    rcases findI_cases l nm with ⟨k, hk, hf, -, hq, -⟩ | ⟨hf, -⟩
    · rw [hf] at CF
      unfold setAt at hok
      rw [hf] at hok
      simp only [Int.toNat_natCast, List.getElem?_eq_getElem hk] at hok
      have HF := hide hf
      have hnm := hide (eqS_eq hq)
      have hst := cat_state hcat hk
      clear hcat hf hq
      obtain ⟨i0, hi, hz0, hz1, hz2⟩ := info_parts infoE
      go_enter Try.func33, Try.ntmps33
      go_wp2_with fail
      refine (CF.out w HE.out).mono ?_
      rintro e w1 ⟨rfl, rfl⟩
      obtain ⟨a, cap, rfl, hl, hcap, hd⟩ := HE.out
      obtain ⟨b, off, rfl, hbb, hcell⟩ := hd.resolve_left (by rintro rfl; simp at hk)
      have EA := hide (ents_news hcell)
      have EC := hide (hcell k hk)
      clear hcell hd
      have HR := hide (setL_at hk st)
      have HS := hide (entCells_set3 l k hk st)
      generalize l[k] = x at *
      have hk12 : k ≤ 11 := by omega
      go_wp2_with fail
      refine (CV.out w HE.out).mono ?_
      rintro e w2 ⟨rfl, hb2⟩
      have E2 := hide (HE.out.keep hb2)
      obtain ⟨d0, d1, d2, -⟩ := EC.out.keep hb2
      have H2 := hide hb2
      have EA2 : Hid (∀ j u, (entCells l)[j]? = some u → w2.cell? ⟨b, off + j, none⟩ = some u) := fun j u hu => (H2.out.cell (p := ⟨b, off + j, none⟩) (lt_cell (EA.out j u hu))).trans (EA.out j u hu)
      have hbb2 : b < w2.heap.size := Nat.lt_of_lt_of_le hbb hb2.size
      clear hb2
      by_cases ht : mtB x.t = true
      · have ht2 : x.t.toList = [] := by simpa [mtB] using ht
        have hok' : ok = false := by rw [← hok, ht]; simp
        subst hok'
        clear hok
        go_wp2_with fail
        all_goals go_tidy
        refine ⟨rfl, .tuple #[.slice none 0 0, .bool false], by simp [results, Try.results33, go_sem], (HR0.out ▸ catRet_no H2.out)⟩
      · have ht' : mtB x.t = false := by simpa using ht
        have ht2 : ¬ x.t.toList = [] := by simpa [mtB] using ht'
        have ht3 : (x.t.toList == []) = false := by simpa using ht2
        have ht4 : x.t.toList.isEmpty = false := ht'
        rw [ht'] at hok
        clear ht ht'
        by_cases hs1 : x.s + 1 ≤ st ∧ st ≤ 2
        · have hok' : ok = true := by rw [← hok]; simp; omega
          subst hok'
          clear hok
          have HFT : Hid ((findI l nm).toNat = k) := by have := HF.out; unfold Hid; omega
          go_wp2_with fail
          refine (inRange_yes st (x.s + 1) 2 _ hs1.1 hs1.2).mono ?_
          rintro e w3 ⟨rfl, rfl⟩
          go_wp2_with (at_builtin; refine wpList_append_lies _ rfl (.tmp 39) (.tmp 40) 23 rfl w2.heap.size 27 i0 _ 3 40 Try.underlying23 hi hz0 hz1 hz2 rfl (by decide) _ _ _ rfl (World.ownsRow_made w2 #[] 0 (Nat.le_refl _) (Nat.zero_le _) (by simp)) ⟨b, off, none⟩ l.length cap (entCells l) rfl (entCells_len l) ?c1 (entCells_one l) (by omega) ?h63 ?hb ?hbase _ rfl ?next)
          case c1 => intro j u hj; rw [addr_add]; exact Lib.cell?_alloc_some _ (EA2.out j u hj)
          case h63 => unfold maxLen; omega
          case hb => omega
          case hbase => simp
          case next =>
            intro g4 cap4 w4 hown hgrow hat hlt4
            have hB4 : Below w2.heap.size w2 w4 := ((Below.refl _ w2).alloc (Nat.le_refl _) _).grown hgrow (by simp) (by intro q hq; simp [Value.ownBlock] at hq; omega)
            have H4 : Hid (Below w.heap.size w w4) := H2.out.trans (hB4.mono H2.out.size)
            obtain ⟨y0, y1, y2, -⟩ := EC.out.keep H4.out
            have hz2 := H2.out.size
            obtain ⟨q0, q1⟩ := row_caps hown
            obtain ⟨u0, x0⟩ : ∃ u, w4.cell? ⟨g4, k * 3, none⟩ = some u := ⟨_, by rw [World.ownsRow.cellAt hown _ (by omega)]; exact List.getElem?_eq_getElem (by rw [entCells_len]; omega)⟩
            obtain ⟨u1, x1⟩ : ∃ u, w4.cell? ⟨g4, k * 3 + 1, none⟩ = some u := ⟨_, by rw [World.ownsRow.cellAt hown _ (by omega)]; exact List.getElem?_eq_getElem (by rw [entCells_len]; omega)⟩
            obtain ⟨u2, x2⟩ : ∃ u, w4.cell? ⟨g4, k * 3 + 2, none⟩ = some u := ⟨_, by rw [World.ownsRow.cellAt hown _ (by omega)]; exact List.getElem?_eq_getElem (by rw [entCells_len]; omega)⟩
            have f0 := World.ownsRow.frozenAt hown (k * 3)
            have f1 := World.ownsRow.frozenAt hown (k * 3 + 1)
            have f2 := World.ownsRow.frozenAt hown (k * 3 + 2)
            have S1 := World.ownsRow.stored hown (k * 3) (.string nm)
            have S2 := World.ownsRow.stored S1.1 (k * 3 + 1) (.string x.t)
            have S3 := World.ownsRow.stored S2.1 (k * 3 + 2) (.int .i64 st)
            have SO := hide S3.1
            have SG := hide (grown_trans (grown_trans S1.2 S2.2) S3.2)
            have hg4 : w2.heap.size ≤ g4 := (hown.lt g4 rfl).1
            clear hown hgrow hat S1 S2 S3 hB4 d0 d1 d2
            go_wp2_with fail
            all_goals go_tidy
            refine ⟨rfl, .tuple #[.slice (some ⟨g4, 0, none⟩) l.length cap4, .bool true], by simp [results, Try.results33, go_sem], ⟨_, rfl, ?_, ?_⟩⟩
            · rw [HR0.out]
              (first | rw [if_pos trivial] | rw [if_pos rfl])
              rw [HFT.out, HR.out]
              unfold OwnE
              rw [List.length_set, ← HS.out, hnm.out]
              exact own_mono SO.out hz2
            · exact H4.out.grown SG.out H4.out.size (fun q hq => by cases hq; omega)
        · have hok' : ok = false := by rw [← hok]; simp; intro; omega
          subst hok'
          clear hok
          go_wp2_with fail
          refine (inRange_no st (x.s + 1) 2 _ hs1).mono ?_
          rintro e w3 ⟨rfl, rfl⟩
          go_wp2_with fail
          all_goals go_tidy
          refine ⟨rfl, .tuple #[.slice none 0 0, .bool false], by simp [results, Try.results33, go_sem], (HR0.out ▸ catRet_no H2.out)⟩
    · rw [hf] at CF
      have hok' : ok = false := by rw [← hok, hf]; simp
      subst hok'
      clear hok hcat hf
      go_enter Try.func33, Try.ntmps33
      go_wp2_with fail
      refine (CF.out w HE.out).mono ?_
      rintro e w1 ⟨rfl, rfl⟩
      go_wp2_with fail
      refine (CV.out w HE.out).mono ?_
      rintro e w2 ⟨rfl, hb2⟩
      have H2 := hide hb2
      clear hb2
      go_wp2_with fail
      all_goals go_tidy
      refine ⟨rfl, .tuple #[.slice none 0 0, .bool false], by simp [results, Try.results33, go_sem], (HR0.out ▸ catRet_no H2.out)⟩
  · have hcat' : catB l = false := by simpa using hcat
    have hok' : ok = false := by rw [← hok, setOk, hcat']; rfl
    subst hok'
    rw [hcat'] at CV
    clear hok hcat hcat'
    go_enter Try.func33, Try.ntmps33
    go_wp2_with fail
    refine (CF.out w HE.out).mono ?_
    rintro e w1 ⟨rfl, rfl⟩
    go_wp2_with fail
    refine (CV.out w HE.out).mono ?_
    rintro e w2 ⟨rfl, hb2⟩
    have H2 := hide hb2
    clear hb2
    go_wp2_with fail
    all_goals go_tidy
    refine ⟨rfl, .tuple #[.slice none 0 0, .bool false], by simp [results, Try.results33, go_sem], (HR0.out ▸ catRet_no H2.out)⟩
end Go.Proofs.Yteikeljklfblmaa
