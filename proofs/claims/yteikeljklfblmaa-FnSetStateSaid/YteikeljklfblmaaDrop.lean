/-
  DropEntry: the entries that stay, in new memory.
-/
import Derived.Test.YteikeljklfblmaaMark
import Derived.Deep.AppendLies
import Derived.OwnWalk
set_option linter.all false
namespace Go.Proofs.Yteikeljklfblmaa
open Go.RowKit
theorem own_mono {w : World} {base base' : Nat} {e : TypeId} {size : Nat} {v : Value} {n : Nat} {xs : List Value} (h : w.ownsRow base e size v n xs) (hb : base' ≤ base) : w.ownsRow base' e size v n xs :=
  ⟨h.1, h.2.imp id fun ⟨g, cap, cur, h1, h2, h3⟩ => ⟨g, cap, cur, h1, Nat.le_trans hb h2, h3⟩⟩
def entCells (l : List Ent) : List Value := l.flatMap fun e => [.string e.n, .string e.t, .int .i64 e.s]
theorem entCells_len (l : List Ent) : (entCells l).length = l.length * 3 := by
  induction l with
  | nil => rfl
  | cons e l ih => simp only [entCells, List.flatMap_cons, List.length_append, List.length_cons, List.length_nil] at ih ⊢; rw [ih]; omega
theorem entCells_app (l : List Ent) (e : Ent) : entCells (l ++ [e]) = entCells l ++ [.string e.n, .string e.t, .int .i64 e.s] := by simp [entCells]
theorem entCells_at (l : List Ent) (i : Nat) (h : i < l.length) : (entCells l)[i * 3]? = some (.string l[i].n) ∧ (entCells l)[i * 3 + 1]? = some (.string l[i].t) ∧ (entCells l)[i * 3 + 2]? = some (.int .i64 l[i].s) := by
  induction l generalizing i with
  | nil => simp at h
  | cons e l ih =>
    have hc : entCells (e :: l) = .string e.n :: .string e.t :: .int .i64 e.s :: entCells l := rfl
    cases i with
    | zero => rw [hc]; exact ⟨rfl, rfl, rfl⟩
    | succ i =>
      obtain ⟨h1, h2, h3⟩ := ih i (by simpa using h)
      rw [hc, show (i + 1) * 3 = i * 3 + 3 from by omega]
      exact ⟨by simpa using h1, by simpa using h2, by simpa using h3⟩
def keepE (nm : ByteArray) (e : Ent) : Bool := !eqS e.n nm && !eqS e.t nm
def dropOk (l : List Ent) (nm : ByteArray) : Bool := catB l && decide (0 ≤ findI l nm)
def dropR (l : List Ent) (nm : ByteArray) : List Ent := if dropOk l nm then l.filter (keepE nm) else []
/-- a slice of entries in memory that is new since B -/
def OwnE (B : Nat) (w : World) (v : Value) (l : List Ent) : Prop := w.ownsRow B 27 3 v l.length (entCells l)
def DropRet (w : World) (l : List Ent) (nm : ByteArray) (e : Ending) (w' : World) : Prop := ∃ v', e = .returned (.tuple #[v', .bool (dropOk l nm)]) ∧ OwnE w.heap.size w' v' (dropR l nm) ∧ Below w.heap.size w w'
theorem take_keep {l : List Ent} {k : Nat} (h : k < l.length) (nm : ByteArray) : (l.take (k + 1)).filter (keepE nm) = (l.take k).filter (keepE nm) ++ (if keepE nm l[k] then [l[k]] else []) := by
  rw [List.take_succ_eq_append_getElem h, List.filter_append]
  congr 1
  simp [List.filter_cons]
set_option maxHeartbeats 4000000 in
theorem iDropEntry_any (nm : ByteArray) (v : Value) (l : List Ent) (w : World) (h : Ents w v l) :
    Calls Try.prog 21 #[v, .string nm] w (DropRet w l nm) := by
  have HE := hide h
  clear h
  by_cases hcat : catB l = true
  · have hlen : l.length ≤ 12 := (of_decide_eq_true hcat).1
    by_cases hf : 0 ≤ findI l nm
    · have hok : dropOk l nm = true := by simp [dropOk, hcat, hf]
      have hR : dropR l nm = l.filter (keepE nm) := by simp [dropR, hok]
      obtain ⟨i0, hi, hz0, hz1, hz2⟩ := info_parts infoE
      go_enter Try.func21, Try.ntmps21
      go_wp2_with fail
      refine (ivalidCatalog_any v l w HE.out).mono ?_
      rintro e w1 ⟨rfl, hb1⟩
      rw [hcat]
      have E1 := hide (HE.out.keep hb1)
      have H1 := hide hb1
      clear hb1
      go_wp2_with fail
      refine (findEntry_any nm v l w1 E1.out).mono ?_
      rintro e w2 ⟨rfl, hb2⟩
      have E2 := hide (E1.out.keep hb2)
      have H2 : Hid (Below w.heap.size w w2) := H1.out.trans (hb2.mono H1.out.size)
      clear hb2
      obtain ⟨a, cap, rfl, hl, hcap, hd⟩ := E2.out
      go_wp2_with fail
      go_loopg [6, 20] l.length (fun gk s6 s20 wr => Below w2.heap.size w2 wr ∧ ∃ (k : Nat), k + gk = l.length ∧ s20 = .int .i64 (k : Int) ∧ OwnE w2.heap.size wr s6 ((l.take k).filter (keepE nm)))
      case atStart => exact ⟨Below.refl _ _, 0, by omega, rfl, World.ownsRow_nil _ _ _ _⟩
      case round =>
        obtain ⟨hbw, k, hk, rfl, hown⟩ := hrel
        have HW : Hid (Below w.heap.size w wr) := H2.out.trans (hbw.mono H2.out.size)
        have HO := hide hown
        have hbs : w2.heap.size ≤ wr.heap.size := hbw.size
        clear hown
        by_cases hlt : k < l.length
        · obtain ⟨b, off, rfl, hbb, hcell⟩ := hd.resolve_left (by rintro rfl; simp at hlt)
          obtain ⟨e0, e1, e2, -⟩ := (hcell k hlt).keep hbw
          have HT := hide (take_keep hlt nm)
          have HB := hide hbw
          clear hcell hd hbw
          generalize l[k] = e at *
          have hal : Below w2.heap.size w2 (wr.alloc (.cells #[.string e.n, .string e.t, .int .i64 e.s] 27)) := HB.out.alloc HB.out.size _
          have HAL := hide hal
          clear hal
          by_cases hn : e.n.toList = nm.toList
          · have HK : Hid (keepE nm e = false) := by simp [Hid, keepE, eqS, hn]
            go_wp2_with fail
            go_roundg (gk - 1)
            case measure => omega
            case rel => exact ⟨HAL.out, k + 1, by omega, by go_num, by rw [HT.out, HK.out]; simpa [OwnE] using World.ownsRow.alloc HO.out _⟩
          · by_cases ht : e.t.toList = nm.toList
            · have HK : Hid (keepE nm e = false) := by simp [Hid, keepE, eqS, ht]
              go_wp2_with fail
              go_roundg (gk - 1)
              case measure => omega
              case rel => exact ⟨HAL.out, k + 1, by omega, by go_num, by rw [HT.out, HK.out]; simpa [OwnE] using World.ownsRow.alloc HO.out _⟩
            · have HK : Hid (keepE nm e = true) := by simp [Hid, keepE, eqS, hn, ht]
              have qn : (e.n.toList == nm.toList) = false := by simpa using hn
              have qt : (e.t.toList == nm.toList) = false := by simpa using ht
              have hfl : ((l.take k).filter (keepE nm)).length ≤ k := Nat.le_trans (List.length_filter_le _ _) (by rw [List.length_take]; omega)
              go_wp2_with (at_builtin; refine wpList_append_lies _ rfl (.tmp 34) (.tmp 36) 23 rfl w2.heap.size 27 i0 _ 3 40 Try.underlying23 hi hz0 hz1 hz2 rfl (by decide) _ _ _ rfl ((World.ownsRow.alloc (World.ownsRow.alloc HO.out _) _)) ⟨_, 0, none⟩ 1 1 [.string e.n, .string e.t, .int .i64 e.s] rfl rfl ?c1 ?h1 (by decide) ?h63 ?hb ?hbase _ rfl ?next)
              case c1 => exact World.news_of_block (cs := #[.string e.n, .string e.t, .int .i64 e.s]) (blk_at (by simp) _)
              case h1 => intro u hu; simp at hu; rcases hu with rfl | rfl | rfl <;> rfl
              case h63 => unfold maxLen; omega
              case hb => omega
              case hbase => simp; omega
              case next =>
                intro g cp w3 hown hgrow hat hlt3
                have HN : Hid (OwnE w2.heap.size w3 (.slice (some ⟨g, 0, none⟩) (((l.take k).filter (keepE nm)).length + 1) cp) ((l.take (k + 1)).filter (keepE nm))) := by
                  rw [HT.out, HK.out]
                  unfold OwnE
                  rw [if_pos rfl, entCells_app, List.length_append]
                  exact hown
                have H3 : Hid (Below w2.heap.size w2 w3) := (HAL.out.alloc HAL.out.size _).grown hgrow (by simp; omega) (fun q hq => (HO.out.lt q hq).1)
                clear hown hgrow hat
                go_wp2_with fail
                go_roundg (gk - 1)
                case measure => omega
                case rel => exact ⟨H3.out, k + 1, by omega, by go_num, HN.out⟩
        · have hkl : k = l.length := by omega
          subst hkl
          rw [List.take_length] at HO
          clear hd
          go_wp2_with fail
          all_goals go_tidy
          refine ⟨rfl, .tuple #[u6, .bool true], by simp [results, Try.results21, go_sem], ⟨u6, by rw [hok], by rw [hR]; exact own_mono HO.out H2.out.size, HW.out⟩⟩
    · have hok : dropOk l nm = false := by simp [dropOk, hf]
      go_enter Try.func21, Try.ntmps21
      go_wp2_with fail
      refine (ivalidCatalog_any v l w HE.out).mono ?_
      rintro e w1 ⟨rfl, hb1⟩
      rw [hcat]
      have E1 := hide (HE.out.keep hb1)
      have H1 := hide hb1
      clear hb1
      go_wp2_with fail
      refine (findEntry_any nm v l w1 E1.out).mono ?_
      rintro e w2 ⟨rfl, hb2⟩
      have H2 : Hid (Below w.heap.size w w2) := H1.out.trans (hb2.mono H1.out.size)
      clear hb2
      go_wp2_with fail
      all_goals go_tidy
      refine ⟨rfl, .tuple #[.slice none 0 0, .bool false], by simp [results, Try.results21, go_sem], ⟨_, by rw [hok], by rw [dropR, hok]; exact World.ownsRow_nil _ _ _ _, H2.out⟩⟩
  · have hcat' : catB l = false := by simpa using hcat
    have hok : dropOk l nm = false := by simp [dropOk, hcat']
    go_enter Try.func21, Try.ntmps21
    go_wp2_with fail
    refine (ivalidCatalog_any v l w HE.out).mono ?_
    rintro e w1 ⟨rfl, hb1⟩
    rw [hcat']
    have H1 := hide hb1
    clear hb1
    go_wp2_with fail
    all_goals go_tidy
    refine ⟨rfl, .tuple #[.slice none 0 0, .bool false], by simp [results, Try.results21, go_sem], ⟨_, by rw [hok], by rw [dropR, hok]; exact World.ownsRow_nil _ _ _ _, H1.out⟩⟩
end Go.Proofs.Yteikeljklfblmaa
