/-
  DropEntry of the specification.
-/
import Derived.Test.YteikeljklfblmaaDrop
import Derived.Laws.OwnMore
set_option linter.all false
namespace Go.Proofs.Yteikeljklfblmaa
open Go.RowKit
set_option maxHeartbeats 4000000 in
theorem sDropEntry_any (nm : ByteArray) (v : Value) (l : List Ent) (w : World) (h : Ents w v l) :
    Calls Try.prog 22 #[v, .string nm] w (DropRet w l nm) := by
  have HE := hide h
  clear h
  have HA := hide (HE.out.keep ((Below.refl w.heap.size w).alloc (Nat.le_refl _) (.cells #[] 27)))
  have H0 := hide ((Below.refl w.heap.size w).alloc (Nat.le_refl _) (.cells #[] 27))
  have O0 := hide (World.ownsRow_lit (base := w.heap.size) (e := 27) (size := 3) w #[] 0 (Nat.le_refl _) (by decide) rfl)
  by_cases hcat : catB l = true
  · have hlen : l.length ≤ 12 := (of_decide_eq_true hcat).1
    by_cases hf : 0 ≤ findI l nm
    · have hok : dropOk l nm = true := by simp [dropOk, hcat, hf]
      have hR : dropR l nm = l.filter (keepE nm) := by simp [dropR, hok]
      obtain ⟨i0, hi, hz0, hz1, hz2⟩ := info_parts infoE
      go_enter Try.func22, Try.ntmps22
      go_wp2_with fail
      refine (svalidCatalog_any v l _ HA.out).mono ?_
      rintro e w1 ⟨rfl, hb1⟩
      rw [hcat]
      have E1 := hide (HA.out.keep hb1)
      have O1 := hide (O0.out.kept (grown_below hb1 none) (.inr (by simp [Value.ownBlock])))
      have H1 : Hid (Below w.heap.size w w1) := H0.out.trans (hb1.mono H0.out.size)
      clear hb1
      go_wp2_with fail
      refine (sfind_any nm v l w1 E1.out).mono ?_
      rintro e w2 ⟨rfl, rfl⟩
      obtain ⟨a, cap, rfl, hl, hcap, hd⟩ := HE.out
      go_wp2_with fail
      go_loopg [6, 7] l.length (fun gk s6 s7 wr => Below w.heap.size w wr ∧ ∃ (k : Nat), k + gk = l.length ∧ s7 = .int .i64 (k : Int) ∧ OwnE w.heap.size wr s6 ((l.take k).filter (keepE nm)))
      case atStart => exact ⟨H1.out, 0, by omega, rfl, O1.out⟩
      case round =>
        obtain ⟨hbw, k, hk, rfl, hown⟩ := hrel
        have HW := hide hbw
        have HO := hide hown
        have hbs : w.heap.size ≤ wr.heap.size := hbw.size
        clear hown
        by_cases hlt : k < l.length
        · obtain ⟨b, off, rfl, hbb, hcell⟩ := hd.resolve_left (by rintro rfl; simp at hlt)
          obtain ⟨e0, e1, e2, -⟩ := (hcell k hlt).keep hbw
          have HT := hide (take_keep hlt nm)
          clear hcell hd hbw
          generalize l[k] = e at *
          by_cases hn : e.n.toList = nm.toList
          · have HK : Hid (keepE nm e = false) := by simp [Hid, keepE, eqS, hn]
            go_wp2_with fail
            go_roundg (gk - 1)
            case measure => omega
            case rel => exact ⟨HW.out, k + 1, by omega, by go_num, by rw [HT.out, HK.out]; simpa [OwnE] using HO.out⟩
          · by_cases ht : e.t.toList = nm.toList
            · have HK : Hid (keepE nm e = false) := by simp [Hid, keepE, eqS, ht]
              go_wp2_with fail
              go_roundg (gk - 1)
              case measure => omega
              case rel => exact ⟨HW.out, k + 1, by omega, by go_num, by rw [HT.out, HK.out]; simpa [OwnE] using HO.out⟩
            · have HK : Hid (keepE nm e = true) := by simp [Hid, keepE, eqS, hn, ht]
              have qn : (e.n.toList == nm.toList) = false := by simpa using hn
              have qt : (e.t.toList == nm.toList) = false := by simpa using ht
              have hfl : ((l.take k).filter (keepE nm)).length ≤ k := Nat.le_trans (List.length_filter_le _ _) (by rw [List.length_take]; omega)
              go_wp2_with (at_builtin; refine wpList_append_lies _ rfl (.tmp 40) (.tmp 45) 23 rfl w.heap.size 27 i0 _ 3 40 Try.underlying23 hi hz0 hz1 hz2 rfl (by decide) _ _ _ rfl (World.ownsRow.alloc HO.out _) ⟨_, 0, none⟩ 1 1 [.string e.n, .string e.t, .int .i64 e.s] rfl rfl ?c1 ?h1 (by decide) ?h63 ?hb ?hbase _ rfl ?next)
              case c1 => exact World.news_of_block (cs := #[.string e.n, .string e.t, .int .i64 e.s]) (blk_at rfl _)
              case h1 => intro u hu; simp at hu; rcases hu with rfl | rfl | rfl <;> rfl
              case h63 => unfold maxLen; omega
              case hb => omega
              case hbase => simp; omega
              case next =>
                intro g cp w3 hown hgrow hat hlt3
                have HN : Hid (OwnE w.heap.size w3 (.slice (some ⟨g, 0, none⟩) (((l.take k).filter (keepE nm)).length + 1) cp) ((l.take (k + 1)).filter (keepE nm))) := by
                  rw [HT.out, HK.out]
                  unfold OwnE
                  rw [if_pos rfl, entCells_app, List.length_append]
                  exact hown
                have H3 : Hid (Below w.heap.size w w3) := (HW.out.alloc HW.out.size _).grown hgrow (by simp; omega) (fun q hq => (HO.out.lt q hq).1)
                clear hown hgrow hat
                go_wp2_with fail
                go_roundg (gk - 1)
                case measure => omega
                case rel => exact ⟨H3.out, k + 1, by omega, by go_num, HN.out⟩
        · have hkl : k = l.length := by omega
          subst hkl
          rw [List.take_length] at HO
          clear hd
          go_wp2_with fail
          all_goals go_tidy
          refine ⟨rfl, .tuple #[u6, .bool true], by simp [results, Try.results22, go_sem], ⟨u6, by rw [hok], by rw [hR]; exact HO.out, HW.out⟩⟩
    · have hok : dropOk l nm = false := by simp [dropOk, hf]
      go_enter Try.func22, Try.ntmps22
      go_wp2_with fail
      refine (svalidCatalog_any v l _ HA.out).mono ?_
      rintro e w1 ⟨rfl, hb1⟩
      rw [hcat]
      have E1 := hide (HA.out.keep hb1)
      have H1 : Hid (Below w.heap.size w w1) := H0.out.trans (hb1.mono H0.out.size)
      clear hb1
      go_wp2_with fail
      refine (sfind_any nm v l w1 E1.out).mono ?_
      rintro e w2 ⟨rfl, rfl⟩
      go_wp2_with fail
      all_goals go_tidy
      refine ⟨rfl, .tuple #[.slice none 0 0, .bool false], by simp [results, Try.results22, go_sem], ⟨_, by rw [hok], by rw [dropR, hok]; exact World.ownsRow_nil _ _ _ _, H1.out⟩⟩
  · have hcat' : catB l = false := by simpa using hcat
    have hok : dropOk l nm = false := by simp [dropOk, hcat']
    go_enter Try.func22, Try.ntmps22
    go_wp2_with fail
    refine (svalidCatalog_any v l _ HA.out).mono ?_
    rintro e w1 ⟨rfl, hb1⟩
    rw [hcat']
    have H1 : Hid (Below w.heap.size w w1) := H0.out.trans (hb1.mono H0.out.size)
    clear hb1
    go_wp2_with fail
    all_goals go_tidy
    refine ⟨rfl, .tuple #[.slice none 0 0, .bool false], by simp [results, Try.results22, go_sem], ⟨_, by rw [hok], by rw [dropR, hok]; exact World.ownsRow_nil _ _ _ _, H1.out⟩⟩
end Go.Proofs.Yteikeljklfblmaa
