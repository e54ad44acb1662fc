/-
  The walk of FnDropEntryIndex.
-/
import Derived.Test.YteikeljklfblmaaCatLaw
set_option linter.all false
namespace Go.Proofs.Yteikeljklfblmaa
open Go.RowKit
set_option maxHeartbeats 4000000 in
set_option maxRecDepth 100000 in
theorem fnDropEntryIndex_walk (v : Value) (w : World) (h : BytesAt w v) :
    Calls Try.prog 6 #[v] w fun e w' => e = .returned (.bool true) ∧ Below w.heap.size w w' := by
  have hB := hide h
  obtain ⟨a, len, cap0, rfl, hlc, hcap0, hr⟩ := h
  clear hr
  by_cases hlen : 1048576 < len
  · go_enter Try.func6, Try.ntmps6
    go_wp2_with fail
    go_ret
    exact ⟨rfl, Below.refl _ _⟩
  go_enter Try.func6, Try.ntmps6
  go_wp2_with fail
  refine (drawDropEntry_any _ _ hB.out).mono ?_
  rintro e w1 ⟨g0, cap, l, nm, rfl, hnz, hcp, D⟩
  have H := hide D.below
  have hl13 := D.len
  have SZ := hide (sz_big D.sz)
  have E := hide (OwnE.ents D.own (sz_big D.sz))
  clear D hB
  obtain ⟨ok, hok⟩ : ∃ ok, dropOk l nm = ok := ⟨_, rfl⟩
  obtain ⟨R, hR⟩ : ∃ R, dropR l nm = R := ⟨_, rfl⟩
  have RZ : Hid (∀ e ∈ R, e.n.size ≤ 9223372036854775807 ∧ e.t.size ≤ 9223372036854775807) := by rw [← hR]; exact dropR_sizes SZ.out nm
  have HOK := hide hok
  have HR := hide hR
  clear hok hR
  go_wp2_with fail
  refine (iDropEntry_any nm _ l _ E.out).mono ?_
  rintro e w2 ⟨v2, rfl, ho, hb⟩
  rw [HOK.out]
  rw [HR.out] at ho
  have A := hide (ho.ents RZ.out)
  have E := hide (E.out.keep hb)
  have H : Hid (Below w.heap.size w w2) := H.out.trans (hb.mono H.out.size)
  clear ho hb
  go_wp2_with fail
  refine (sDropEntry_any nm _ l _ E.out).mono ?_
  rintro e w3 ⟨v3, rfl, ho, hb⟩
  rw [HOK.out]
  rw [HR.out] at ho
  have A := hide (A.out.keep hb)
  have B := hide (ho.ents RZ.out)
  have E := hide (E.out.keep hb)
  have H : Hid (Below w.heap.size w w3) := H.out.trans (hb.mono H.out.size)
  clear ho hb
  go_wp2_with fail
  refine (equalEntries_same v2 v3 R _ A.out B.out).mono ?_
  rintro e w4 ⟨rfl, hb⟩
  have A := hide (A.out.keep hb)
  have B := hide (B.out.keep hb)
  have E := hide (E.out.keep hb)
  have H : Hid (Below w.heap.size w w4) := H.out.trans (hb.mono H.out.size)
  clear hb
  cases ok with
  | false =>
    go_wp2_with fail
    refine (equalEntries_same v2 v3 R _ A.out B.out).mono ?_
    rintro e w5 ⟨rfl, hb⟩
    have H : Hid (Below w.heap.size w w5) := H.out.trans (hb.mono H.out.size)
    clear hb
    go_wp2_with fail
    go_ret
    exact ⟨rfl, H.out⟩
  | true =>
    have HRF : Hid (R = l.filter (keepE nm)) := by rw [← HR.out, dropR, HOK.out]; rfl
    obtain ⟨i0, hi, hz0, hz1, hz2⟩ := info_parts infoE
    obtain ⟨a1, cap1, hv1, hl1, hc1, hd1⟩ := E.out
    cases hv1
    go_wp2_with fail
    go_loopg [9, 10, 11] l.length (fun gk s9 s10 s11 wr => Below w4.heap.size w4 wr ∧ ∃ k : Nat, k + gk = l.length ∧ s11 = .int .i64 (k : Int) ∧ s10 = .bool (idxF nm (l.take k)) ∧ OwnE w4.heap.size wr s9 ((l.take k).filter (noName nm)))
    case atStart => exact ⟨(Below.refl _ _).alloc (Nat.le_refl _) _, 0, by omega, rfl, rfl, own_lit_at rfl (Nat.le_refl _)⟩
    case round =>
      obtain ⟨hbw, k, hk, rfl, rfl, hown⟩ := hrel
      have HW := hide hbw
      have HO := hide hown
      have hbs : w4.heap.size ≤ wr.heap.size := hbw.size
      clear hown
      by_cases hlt : k < l.length
      · obtain ⟨b, off, hab, hbb, hcell⟩ := hd1.resolve_left (by rintro rfl; simp at hlt)
        cases hab
        obtain ⟨e0, e1, e2, -⟩ := (hcell k hlt).keep hbw
        rw [Nat.zero_add] at e0 e1 e2
        have HT := hide (take_filter hlt (noName nm))
        have HI := hide (idxF_take hlt nm)
        clear hcell hd1 hbw
        generalize l[k] = x at *
        by_cases hq : eqS x.n nm = true
        · have q1 : x.n.toList = nm.toList := by simpa [eqS] using hq
          have HF : Hid ((l.take (k + 1)).filter (noName nm) = (l.take k).filter (noName nm)) := by unfold Hid; rw [HT.out]; simp [noName, hq]
          have HJ : Hid (idxF nm (l.take (k + 1)) = !mtB x.t) := by unfold Hid; rw [HI.out, if_pos hq]
          clear HT HI hq
          by_cases ht : mtB x.t = true
          · have t1 : x.t.toList = [] := by simpa [mtB] using ht
            go_wp2_with fail
            go_roundg (gk - 1)
            case measure => omega
            case rel => exact ⟨HW.out, k + 1, by omega, by go_num, by rw [HJ.out, ht]; first | rfl | simp, by rw [HF.out]; exact HO.out⟩
          · have t0 : mtB x.t = false := by simpa using ht
            have t1 : ¬ x.t.toList = [] := by simpa [mtB] using ht
            have t2 : (x.t.toList == []) = false := by simpa using t1
            go_wp2_with fail
            go_roundg (gk - 1)
            case measure => omega
            case rel => exact ⟨HW.out, k + 1, by omega, by go_num, by rw [HJ.out, t0]; first | rfl | simp [t2], by rw [HF.out]; exact HO.out⟩
        · have hq' : eqS x.n nm = false := by simpa using hq
          have q1 : ¬ x.n.toList = nm.toList := by simpa [eqS] using hq
          have q2 : (x.n.toList == nm.toList) = false := hq'
          have HF : Hid ((l.take (k + 1)).filter (noName nm) = (l.take k).filter (noName nm) ++ [x]) := by unfold Hid; rw [HT.out]; simp [noName, hq']
          have HJ : Hid (idxF nm (l.take (k + 1)) = idxF nm (l.take k)) := by unfold Hid; rw [HI.out, if_neg hq]
          have hfl : ((l.take k).filter (noName nm)).length ≤ k := Nat.le_trans (List.length_filter_le _ _) (by rw [List.length_take]; omega)
          clear HT HI hq hq'
          generalize idxF nm (l.take k) = ib at *
          go_wp2_with (at_builtin; refine wpList_append_lies _ rfl (.tmp 67) (.tmp 72) 23 rfl w4.heap.size 27 i0 _ 3 40 Try.underlying23 hi hz0 hz1 hz2 rfl (by decide) _ _ _ rfl (World.ownsRow.alloc HO.out _) ⟨_, 0, none⟩ 1 1 [.string x.n, .string x.t, .int .i64 x.s] rfl rfl ?c1 ?h1 (by decide) ?h63 ?hb ?hbase _ rfl ?next)
          case c1 => exact World.news_of_block (cs := #[.string x.n, .string x.t, .int .i64 x.s]) (blk_at rfl _)
          case h1 => intro u hu; simp at hu; rcases hu with rfl | rfl | rfl <;> rfl
          case h63 => unfold maxLen; omega
          case hb => omega
          case hbase => simp; omega
          case next =>
            intro g cp w5 hown hgrow hat hlt3
            have HN : Hid (OwnE w4.heap.size w5 (.slice (some ⟨g, 0, none⟩) (((l.take k).filter (noName nm)).length + 1) cp) ((l.take (k + 1)).filter (noName nm))) := by
              rw [HF.out]
              unfold OwnE
              rw [entCells_app, List.length_append]
              exact hown
            have H3 : Hid (Below w4.heap.size w4 w5) := (HW.out.alloc HW.out.size _).grown hgrow (by simp; omega) (fun q hq => (HO.out.lt q hq).1)
            clear hown hgrow hat
            go_wp2_with fail
            go_roundg (gk - 1)
            case measure => omega
            case rel => exact ⟨H3.out, k + 1, by omega, by go_num, by rw [HJ.out], HN.out⟩
      · have hkl : k = l.length := by omega
        subst hkl
        rw [List.take_length] at HO
        rw [List.take_length]
        have HJ := hide (fun h => drop_index HOK.out h)
        have A := hide (A.out.keep hbw)
        have H : Hid (Below w.heap.size w wr) := H.out.trans (hbw.mono H.out.size)
        clear hd1 hbw HW
        obtain ⟨ib, hib⟩ : ∃ ib, idxF nm l = ib := ⟨_, rfl⟩
        rw [hib]
        rw [hib] at HJ
        cases ib with
        | false =>
          clear hib
          go_wp2_with fail
          go_ret
          exact ⟨rfl, H.out⟩
        | true =>
          have hRR : l.filter (noName nm) = R := by rw [HJ.out rfl, HRF.out]
          rw [hRR] at HO
          have B := hide (HO.out.ents RZ.out)
          clear hib hRR
          go_wp2_with fail
          refine (equalEntries_same _ _ R _ A.out B.out).mono ?_
          rintro e w6 ⟨rfl, hb⟩
          have H : Hid (Below w.heap.size w w6) := H.out.trans (hb.mono H.out.size)
          clear hb
          go_wp2_with fail
          go_ret
          exact ⟨rfl, H.out⟩
end Go.Proofs.Yteikeljklfblmaa
