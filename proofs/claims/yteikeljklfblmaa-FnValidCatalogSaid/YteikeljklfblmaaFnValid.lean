/-
  The walk of FnValidCatalog.
-/
import Derived.Test.YteikeljklfblmaaCatLaw2
import Derived.Deep.RegionLaw
import Derived.Deep.DeepCutAuto
set_option linter.all false
namespace Go.Proofs.Yteikeljklfblmaa
open Go.RowKit
set_option maxHeartbeats 4000000 in
set_option maxRecDepth 100000 in
theorem fnValidCatalog_walk (v : Value) (w : World) (h : BytesAt w v) :
    Calls Try.prog 3 #[v] w fun e w' => e = .returned (.bool true) ∧ Below w.heap.size w w' := by
  have hB := hide h
  obtain ⟨a, len, cap0, rfl, hlc, hcap0, hr⟩ := h
  clear hr
  by_cases hlen : 1048576 < len
  · go_enter Try.func3, Try.ntmps3
    go_wp2_with fail
    go_ret
    exact ⟨rfl, Below.refl _ _⟩
  go_enter Try.func3, Try.ntmps3
  go_wp2_with fail
  refine (drawValidCatalog_any _ _ hB.out).mono ?_
  rintro e w1 ⟨g0, cap, l, rfl, hcp, D⟩
  have H := hide D.below
  have hl13 := D.len
  have SZ := hide (sz_big D.sz)
  have E := hide (OwnE.ents D.own (sz_big D.sz))
  clear D hB
  obtain ⟨ok, hok⟩ : ∃ ok, catB l = ok := ⟨_, rfl⟩
  have HOK := hide hok
  clear hok
  go_wp2_with fail
  refine (ivalidCatalog_any _ l _ E.out).mono ?_
  rintro e w2 ⟨rfl, hb⟩
  rw [HOK.out]
  have E := hide (E.out.keep hb)
  have H : Hid (Below w.heap.size w w2) := H.out.trans (hb.mono H.out.size)
  clear hb
  go_wp2_with fail
  refine (sValidCatalog_any _ l _ E.out).mono ?_
  rintro e w3 ⟨rfl, hb⟩
  rw [HOK.out]
  have E := hide (E.out.keep hb)
  have H : Hid (Below w.heap.size w w3) := H.out.trans (hb.mono H.out.size)
  clear hb
  have again : ∀ W : World, Ents W (.slice (some ⟨g0, 0, none⟩) l.length cap) l → Below w.heap.size w W → Calls Try.prog 16 #[.slice (some ⟨g0, 0, none⟩) l.length cap] W fun e W' => e = .returned (.bool ok) ∧ Below w.heap.size w W' := fun W hE hW => (sValidCatalog_any _ l _ hE).mono fun e W' ⟨he, hb⟩ => ⟨by rw [he, HOK.out], hW.trans (hb.mono hW.size)⟩
  have AG := hide again
  clear again
  cases ok with
  | false =>
    go_wp2_with fail
    refine (AG.out _ E.out H.out).mono ?_
    rintro e w4 ⟨rfl, hb⟩
    have H := hide hb
    clear hb
    go_wp2_with fail
    go_ret
    exact ⟨rfl, H.out⟩
  | true =>
    by_cases hl0 : l = []
    · subst hl0
      go_wp2_with fail
      refine (AG.out _ E.out H.out).mono ?_
      rintro e w4 ⟨rfl, hb⟩
      have H := hide hb
      clear hb
      go_wp2_with fail
      go_ret
      exact ⟨rfl, H.out⟩
    · have hl1 : 0 < l.length := List.length_pos_iff.2 hl0
      obtain ⟨i, hi, hm⟩ : ∃ i : Nat, i < l.length ∧ (len : Int).tmod (l.length : Int) = (i : Int) := ⟨len % l.length, Nat.mod_lt _ hl1, (Int.ofNat_tmod len l.length).symm⟩
      have TW := hide (twice_law hi)
      obtain ⟨a1, cap1, hv1, hl1', hc1, hd1⟩ := E.out
      cases hv1
      obtain ⟨b, off, hab, hbb, hcell⟩ := hd1.resolve_left hl0
      cases hab
      have EA := hide (ents_news hcell)
      have EC := hide (hcell i hi)
      have LX := hide (SZ.out _ (List.getElem_mem hi))
      clear hcell hd1 hl0 hl1'
      have EA1 : Hid (∀ j u, (entCells l)[j]? = some u → w3.cell? ((⟨g0, 0, none⟩ : Addr).add j) = some u) := fun j u hu => by rw [addr_add]; exact EA.out j u hu
      generalize l[i] = x at *
      obtain ⟨c0, c1, c2, -⟩ := EC.out
      rw [Nat.zero_add] at c0 c1 c2
      have hl2 : (0 : Int) < (l.length : Int) := by omega
      have hl3 : ¬ (l.length : Int) = 0 := by omega
      have hl4 : ¬ l.length = 0 := by omega
      have hl5 : ((l.length : Int) == 0) = false := by simpa using hl4
      have hi2 : (i : Int) < (l.length : Int) := by omega
      have HZ := hide (app_sizes SZ.out LX.out)
      obtain ⟨i0, hi0, hz0, hz1, hz2⟩ := info_parts infoE
      go_upto_region 7 with fail
      go_cut [2] (fun s2 wx => s2 = .bool true ∧ Below w.heap.size w wx)
      case first =>
        go_region_law (first
          | (refine step_append_any _ rfl (.tmp 29) (.tmp 30) 23 rfl w3.heap.size 27 i0 _ 3 40 Try.underlying23 hi0 hz0 hz1 hz2 rfl (by decide) (.slice (some ⟨_, 0, none⟩) 0 0) 0 [] (by rfl) (by first | exact World.ownsRow.drew (own_lit_at (by simp <;> omega) (by simp <;> omega)) | exact World.ownsRow.drew (World.ownsRow.alloc (own_lit_at (by simp <;> omega) (by simp <;> omega)) _)) ⟨g0, 0, none⟩ l.length cap (entCells l) (by rfl) (entCells_len l) (by first | exact cell_to (below_drew_alloc _ _) (Nat.le_refl _) EA1.out | exact cell_to (below_drew_alloc2 _ _ _) (Nat.le_refl _) EA1.out) (entCells_one l) (by unfold maxLen; omega) (by omega) (by simp <;> omega) ?_; intro v4 w4 ho4 hg4; (first | (have HL4 := hide (newsA hg4)) | (have HL4 := hide (newsB hg4)) | skip); have HB4 : Hid (Below w3.heap.size w3 w4) := (by first | exact (below_drew_alloc _ _).grown hg4 (by simp <;> omega) (by intro q hq; simp [Value.ownBlock] at hq; omega) | exact (below_drew_alloc2 _ _ _).grown hg4 (by simp <;> omega) (by intro q hq; simp [Value.ownBlock] at hq; omega)); have HO4 : Hid (OwnE w3.heap.size w4 v4 l) := (by rw [Nat.zero_add] at ho4; exact ho4); obtain ⟨d0, d1, d2, -⟩ := EC.out.keep HB4.out; rw [Nat.zero_add] at d0 d1 d2; clear ho4 hg4)
          | (refine step_append_lies _ rfl (.tmp 31) (.tmp 40) 23 rfl w3.heap.size 27 i0 _ 3 40 Try.underlying23 hi0 hz0 hz1 hz2 rfl (by decide) _ _ _ (by rfl) (by first | exact HO4.out | exact World.ownsRow.alloc HO4.out _) ⟨_, 0, none⟩ 1 1 [.string x.n, .string x.t, .int .i64 x.s] (by rfl) (by rfl) (by first | exact HL4.out | exact World.news_of_block (cs := #[.string x.n, .string x.t, .int .i64 x.s]) (blk_at (by simp) _)) (by intro u hu; simp at hu; rcases hu with rfl | rfl | rfl <;> rfl) (by decide) (by unfold maxLen; omega) (by omega) (by have := HB4.out.size; first | omega | (simp; omega)) _ rfl ?_; intro g5 cap5 w5 ho5 hg5 hat5 hlt5; have HN5 : Hid (OwnE w3.heap.size w5 (.slice (some ⟨g5, 0, none⟩) (l.length + 1) cap5) (l ++ [x])) := (by unfold OwnE Hid; rw [entCells_app, List.length_append]; exact ho5); have HB5 : Hid (Below w3.heap.size w3 w5) := (by first | exact HB4.out.grown hg5 HB4.out.size (fun q hq => (HO4.out.lt q hq).1) | exact (HB4.out.alloc HB4.out.size _).grown hg5 (by have := HB4.out.size; simp; omega) (fun q hq => (HO4.out.lt q hq).1)); clear ho5 hg5 hat5)
          | (go_simp; go_at_call 15; refine (ivalidCatalog_any _ (l ++ [x]) _ (HN5.out.ents HZ.out)).mono ?_; rintro e w6 ⟨rfl, hb6⟩; rw [TW.out]; have HB6 : Hid (Below w3.heap.size w3 w6) := HB5.out.trans (hb6.mono HB5.out.size); clear hb6))
        all_goals
          go_wp2_with fail
          go_meet
          exact ⟨rfl, H.out.trans (HB6.out.mono H.out.size)⟩
      case rest =>
        obtain ⟨rfl, hb⟩ := hcut
        have H := hide hb
        clear hb
        go_wp2_with fail
        go_ret
        exact ⟨rfl, H.out⟩
end Go.Proofs.Yteikeljklfblmaa
