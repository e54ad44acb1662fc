/-
  copyInts of any numbers; validNotes.
-/
import Derived.Test.YtnicjpfkiblimaaCk1
import Derived.Lib.AppendZeros
set_option linter.all false
namespace Go.Proofs.Ytnicjpfkiblimaa
open Go.RowKit
theorem numCells_one (l : List Int) : ∀ u ∈ l.map (Value.int .i64), u.oneCell' = true := by
  intro u hu
  obtain ⟨x, -, rfl⟩ := List.mem_map.1 hu
  rfl
theorem num_add (b o j : Nat) : (⟨b, o, none⟩ : Addr).add j = ⟨b, o + j, none⟩ := by unfold Addr.add; split <;> simp_all
/-- append of any numbers to a row of numbers that the call owns -/
theorem wpList_appN {w : World} {ops : Array Oper} {rest : List Oper} {o : Oper} {a : Act} {Q : Exit → Act → World → Prop} (hgd : o.guard = none) (s x : Operand)
    (ho : o.op = .call { callee := .builtin .append, args := #[s, x], argTypes := #[27, 27] })
    (B : Nat) (v0 : Value) (l0 : List Int) (hs : a.eval s = v0) (hown : OwnN B w v0 l0) (h0 : l0.length ≤ 1048576)
    (v : Value) (l : List Int) (hx : a.eval x = v) (h : Nums w v l) (hnil : NilOk v) (hn : l.length ≤ 1048576) (hB : B ≤ w.heap.size)
    (hK : ∀ v' w', OwnN B w' v' (l0 ++ l) → w.grownBy w' v0.ownBlock → wpList Try.prog ops Q rest (a.put o.dst v') w') : wpList Try.prog ops Q (o :: rest) a w := by
  obtain ⟨i0, hi, hz0, hz1, hz2⟩ := info_parts infoN
  obtain ⟨ao, cap, rfl, hl, hcap, hd⟩ := h
  have happ : (l0 ++ l).map (Value.int .i64) = l0.map (Value.int .i64) ++ l.map (Value.int .i64) := List.map_append
  cases ao with
  | none =>
    have hl0 : l = [] := by
      rcases hd with hd | ⟨b, off, he, -⟩
      · exact hd
      · cases he
    subst hl0
    have hc := hnil 0 cap rfl
    subst hc
    have hrun := run_append_owned_none (P := Try.prog) w B 27 o.type 3 i0 1 Try.underlying27 hi v0 l0.length (l0.map (Value.int .i64)) hown
    refine Lib.wpList_append_run w hgd s x _ _ ho _ _ hs hx _ _ hrun ?_
    exact hK v0 w (by rw [List.append_nil]; exact hown) (World.grownBy.refl _ _)
  | some ad =>
    have hnews : ∀ j u, (l.map (Value.int .i64))[j]? = some u → w.cell? (ad.add j) = some u := by
      rcases hd with rfl | ⟨b, off, he, -, hc⟩
      · intro j u hu; simp at hu
      · injection he with he
        subst he
        intro j u hu
        have hj : j < l.length := by have := (List.getElem?_eq_some_iff.1 hu).1; simpa using this
        rw [num_add, hc j hj]
        rw [List.getElem?_map, List.getElem?_eq_getElem hj] at hu
        simpa using hu
    refine wpList_append_own w hgd s x 27 ho B 3 i0 _ 1 8 Try.underlying27 hi hz0 hz1 hz2 rfl (by decide) v0 l0.length (l0.map (Value.int .i64)) hs hown ad l.length cap (l.map (Value.int .i64)) hx (by simp) hnews (numCells_one l) (by unfold maxLen; omega) (by omega) hB ?_
    intro v' w' h1 h2 _
    refine hK v' w' ?_ h2
    unfold OwnN
    rw [happ, List.length_append]
    exact h1
theorem lit_num {W : World} {b B : Nat} (hb : b = W.heap.size) (hB : B ≤ W.heap.size) : OwnN B (W.alloc (.cells #[] 3)) (.slice (some ⟨b, 0, none⟩) 0 0) [] := by subst hb; exact World.ownsRow_made W #[] 0 hB (by unfold maxLen; omega) (by simp)
set_option maxHeartbeats 2000000 in
theorem copyN_any (v : Value) (ns : List Int) (w : World) (h : Nums w v ns) (hnil : NilOk v) (hn : ns.length ≤ 1048576) :
    Calls Try.prog 29 #[v] w fun e w' => ∃ v', e = .returned v' ∧ OwnN w.heap.size w' v' ns ∧ Below w.heap.size w w' := by
  have HV := hide h
  have HNL := hide hnil
  obtain ⟨a, cap, rfl, -⟩ := h
  clear hnil
  have HB := hide (below_box w (.cells #[] 3))
  have HO : Hid (OwnN w.heap.size (w.alloc (.cells #[] 3)) (.slice (some ⟨w.heap.size, 0, none⟩) 0 0) []) := lit_num rfl (Nat.le_refl _)
  go_enter Try.func29, Try.ntmps29
  go_wp2_with (at_builtin; refine wpList_appN rfl (.tmp 3) (.tmp 4) rfl w.heap.size _ [] rfl HO.out (by simp) _ ns rfl (HV.out.keep HB.out) HNL.out hn HB.out.size ?next)
  case next =>
    intro v' w' ho hg
    have HO' : Hid (OwnN w.heap.size w' v' ns) := ho
    have HW : Hid (Below w.heap.size w w') := HB.out.grown hg HB.out.size (fun k hk => (World.ownsRow.lt HO.out k hk).1)
    obtain ⟨ra, rc, rfl, -⟩ := own_shape ho
    clear ho hg
    go_wp2_with fail
    go_ret
    exact ⟨_, rfl, HO'.out, HW.out⟩
theorem notes_take {w : World} {a : Option Addr} {n c : Nat} {l : List RNote} (h : Notes w (.slice a n c) l) (k : Nat) (hk : k ≤ l.length) : Notes w (.slice a k c) (l.take k) := by
  obtain ⟨a', c', he, hl, hc, hd⟩ := h
  injection he with h1 h2 h3
  subst h1 h3
  have hlen : (l.take k).length = k := by rw [List.length_take]; omega
  refine ⟨a, c, by rw [hlen], by omega, hc, ?_⟩
  rcases hd with rfl | ⟨b, off, rfl, hb, hcell⟩
  · exact .inl (by simp)
  · refine .inr ⟨b, off, rfl, hb, fun i hi => ?_⟩
    rw [hlen] at hi
    have := hcell i (by omega)
    rw [List.getElem_take]
    exact this
set_option maxHeartbeats 16000000 in
set_option maxRecDepth 100000 in
theorem validNotes_any (v u : Value) (ns : List Int) (l : List RNote) (w : World) (h : Nums w v ns) (hnil : NilOk v) (h' : Notes w u l) :
    Calls Try.prog 33 #[v, u] w (TB w (1 ≤ ns.length ∧ ns.length ≤ 6)) := by
  have HV := hide h
  have HU := hide h'
  have HNL := hide hnil
  obtain ⟨a, cap, rfl, hl, hcap, -⟩ := h
  obtain ⟨a2, cap2, rfl, hl2, hcap2, hd⟩ := h'
  clear hnil
  go_enter Try.func33, Try.ntmps33
  go_wp2_with fail
  refine (validStore_any _ ns w HV.out).mono ?_
  rintro e w1 ⟨b, rfl, hb6, hb⟩
  have H1 := hide hb
  have HB6 := hide hb6
  clear hb hb6
  cases b with
  | false =>
    go_wp2_with fail
    go_ret
    exact tb_no H1.out
  | true =>
    have hn6 := HB6.out rfl
    have HN6 := hide hn6
    obtain ⟨hn1, hn6⟩ := hn6
    clear HB6
    by_cases h20 : (20 : Int) < (l.length : Int)
    · have d20 : decide ((20 : Int) < (l.length : Int)) = true := decide_eq_true h20
      go_wp2_with fail
      go_ret
      exact tb_no H1.out
    · have d20 : decide ((20 : Int) < (l.length : Int)) = false := decide_eq_false h20
      have hl20 : l.length ≤ 20 := by omega
      clear h20
      go_wp2_with fail
      refine (copyN_any _ ns w1 (HV.out.keep H1.out) HNL.out (by omega)).mono ?_
      rintro e w2 ⟨vn, rfl, ho, hb⟩
      have H2 := hide (H1.out.trans (hb.mono H1.out.size))
      have HO2 : Hid (OwnN w.heap.size w2 vn ns) := own_mono ho H1.out.size
      obtain ⟨gn, cn, rfl⟩ : ∃ g c, vn = .slice (some ⟨g, 0, none⟩) ns.length c := by
        rcases ho.2 with ⟨rfl, h0⟩ | ⟨g, c, cur, rfl, -⟩
        · omega
        · exact ⟨g, c, rfl⟩
      have hgn := (World.ownsRow.lt HO2.out gn rfl).1
      clear ho hb
      go_wp2_with fail
      go_loopg [6] l.length (fun gk s6 wr => Below w.heap.size w wr ∧ ∃ k : Nat, k + gk = l.length ∧ s6 = .int .i64 (k : Int) ∧ ∃ ns' : List Int, ns'.length = ns.length ∧ OwnN w.heap.size wr (.slice (some ⟨gn, 0, none⟩) ns.length cn) ns')
      case atStart => exact ⟨H2.out, 0, by omega, rfl, ns, rfl, HO2.out⟩
      case round =>
        clear HO2
        obtain ⟨hbw, k, hk, rfl, ns', hns, hown⟩ := hrel
        have HW := hide hbw
        have HO := hide hown
        clear hown
        by_cases hlt : k < l.length
        · obtain ⟨b, off, rfl, hbb, hcell⟩ := hd.resolve_left (by rintro rfl; simp at hlt)
          have E := hide ((hcell k hlt).keep hbw)
          have hbl := Nat.lt_of_lt_of_le hbb hbw.size
          have HTK := hide (notes_take (HU.out.keep hbw) k (by omega))
          clear hcell hd
          generalize l[k] = y at *
          obtain ⟨fin, ow, th, od, nw⟩ := y
          obtain ⟨e0, e1, e2, e3, e4⟩ := E.out
          simp only at e0 e1 e2 e3 e4
          have hk0 : (0 : Int) ≤ (k : Int) := by omega
          have hk1 : (k : Int) ≤ (cap2 : Int) := by omega
          have hk2 : k ≤ cap2 := by omega
          have LIT := hide (blk_alloc wr (.cells #[.bool fin, .int .i64 ow, .int .i64 th, .int .i64 od, .int .i64 nw] 41))
          have HBX := hide (below_box wr (.cells #[.bool fin, .int .i64 ow, .int .i64 th, .int .i64 od, .int .i64 nw] 41))
          have HWX : Hid (Below w.heap.size w (wr.alloc (.cells #[.bool fin, .int .i64 ow, .int .i64 th, .int .i64 od, .int .i64 nw] 41))) := HW.out.alloc HW.out.size _
          have HOX := hide (HO.out.keep HBX.out)
          have HTX := hide (HTK.out.keep HBX.out)
          have hws := HW.out.size
          go_wp2_with fail
          generalize hWX : wr.alloc (.cells #[.bool fin, .int .i64 ow, .int .i64 th, .int .i64 od, .int .i64 nw] 41) = WX at *
          generalize hBX : wr.heap.size = BX at *
          clear hWX e0 e1 e2 e3 e4 E
          have lX := lt_block LIT.out
          have g0 := fun z : BW WX => bw_cell (p := ⟨BX, 0, none⟩) lX (cell_block LIT.out 0) z
          have g1 := fun z : BW WX => bw_cell (p := ⟨BX, 1, none⟩) lX (cell_block LIT.out 1) z
          have C1 := hide (fun q hq => inR_bw ow 0 7 q hq WX)
          have CE : Hid (∀ z : BW WX, Calls Try.prog 15 #[.slice (some ⟨b, off, none⟩) k cap2, .int .i64 ow] z.v fun e z' => e = .returned (.bool (endB (l.take k) ow)) ∧ Below z.v.heap.size z.v z') := fun z => (ended_any _ (l.take k) ow z.v (HTX.out.keep z.h)).mono fun _ _ ⟨h1, h2⟩ => ⟨h1, by rw [← h2]; exact Below.refl _ _⟩
          have CF : Hid (∀ z : World, Below WX.heap.size WX z → Calls Try.prog 40 #[.slice (some ⟨b, off, none⟩) k cap2, .int .i64 th, .int .i64 ow] z fun e z' => e = .returned (.bool (freeB (l.take k) th ow)) ∧ Below z.heap.size z z') := fun z hz => (free_any _ (l.take k) th ow z (HTX.out.keep hz)).mono fun _ _ ⟨h1, h2⟩ => ⟨h1, by rw [← h2]; exact Below.refl _ _⟩
          by_cases h1 : 0 ≤ ow ∧ ow ≤ 7
          · have C1 := hide (C1.out true (decide_eq_true h1))
            generalize endB (l.take k) ow = qe at *
            cases qe with
            | true =>
              refine wp_region_bw (by kernel_rfl) (by kernel_rfl) ?_
              repeat (go_big_quiet_step (first | (go_at_call 27; with_reducible exact bw_of (C1.out _)) | (go_at_call 15; with_reducible exact bw_of (CE.out _)) | fail))
              refine wpQuiet_nil ?_
              rintro _ ⟨z, rfl⟩
              have HZ : Hid (Below w.heap.size w z.v) := HWX.out.trans (z.h.mono HWX.out.size)
              go_wp2_with fail
              go_ret
              exact tb_no HZ.out
            | false =>
              refine wp_region_bw (by kernel_rfl) (by kernel_rfl) ?_
              repeat (go_big_quiet_step (first | (go_at_call 27; with_reducible exact bw_of (C1.out _)) | (go_at_call 15; with_reducible exact bw_of (CE.out _)) | fail))
              refine wpQuiet_nil ?_
              rintro _ ⟨z, rfl⟩
              have HZ : Hid (Below w.heap.size w z.v) := HWX.out.trans (z.h.mono HWX.out.size)
              have HOZ := hide (HOX.out.keep z.h)
              have BZ := hide (bw_blk LIT.out z)
              have HZZ := hide z.h
              generalize z.v = Y at *
              have lY := lt_block BZ.out
              have c0 := cell_block BZ.out 0
              have c1 := cell_block BZ.out 1
              have c2 := cell_block BZ.out 2
              have c3 := cell_block BZ.out 3
              have c4 := cell_block BZ.out 4
              clear g0 g1 C1 CE
              cases fin with
              | true =>
                cases d1 : (th != 0) with
                | true =>
                  go_wp2_with fail
                  go_ret
                  exact tb_no HZ.out
                | false =>
                  cases d2 : (od != 0) with
                  | true =>
                    go_wp2_with fail
                    go_ret
                    exact tb_no HZ.out
                  | false =>
                    cases d3 : (nw != 0) with
                    | true =>
                      go_wp2_with fail
                      go_ret
                      exact tb_no HZ.out
                    | false =>
                      go_wp2_with fail
                      go_roundg (gk - 1)
                      case measure => omega
                      case rel => exact ⟨HZ.out, k + 1, by omega, by go_num, ns', hns, HOZ.out⟩
              | false =>
                have CV : Hid (∀ z : BW Y, Calls Try.prog 39 #[.slice (some ⟨gn, 0, none⟩) ns.length cn, .agg #[.int .i64 ow, .int .i64 th, .int .i64 od, .int .i64 nw]] z.v fun e z' => e = .returned (.bool (editB ns' ow th od nw)) ∧ Below z.v.heap.size z.v z') := fun z => validEdit_any _ ns' ow th od nw z.v (by have := (HOZ.out.keep z.h).nums; exact this) (by omega)
                have CF := hide (fun z : BW Y => CF.out z.v (HZZ.out.trans (z.h.mono HZZ.out.size)))
                have g0 := fun z : BW Y => bw_cell (p := ⟨BX, 0, none⟩) lY c0 z
                have g1 := fun z : BW Y => bw_cell (p := ⟨BX, 1, none⟩) lY c1 z
                have g2 := fun z : BW Y => bw_cell (p := ⟨BX, 2, none⟩) lY c2 z
                have g3 := fun z : BW Y => bw_cell (p := ⟨BX, 3, none⟩) lY c3 z
                have g4 := fun z : BW Y => bw_cell (p := ⟨BX, 4, none⟩) lY c4 z
                have HIN := hide (fun h => editB_in (ns := ns') (ow := ow) (th := th) (od := od) (nw := nw) h)
                generalize editB ns' ow th od nw = qv at *
                generalize freeB (l.take k) th ow = qf at *
                cases qv with
                | false =>
                  go_wp2_with fail
                  refine wp_region_bw (by kernel_rfl) (by kernel_rfl) ?_
                  repeat (go_big_quiet_step (first | (go_at_call 39; with_reducible exact bw_of (CV.out _)) | (go_at_call 40; with_reducible exact bw_of (CF.out _)) | fail))
                  refine wpQuiet_nil ?_
                  rintro _ ⟨x, rfl⟩
                  have HX2 : Hid (Below w.heap.size w x.v) := HZ.out.trans (x.h.mono HZ.out.size)
                  go_wp2_with fail
                  go_ret
                  exact tb_no HX2.out
                | true =>
                  obtain ⟨ht0, ht1⟩ := HIN.out rfl
                  cases qf with
                  | false =>
                    go_wp2_with fail
                    refine wp_region_bw (by kernel_rfl) (by kernel_rfl) ?_
                    repeat (go_big_quiet_step (first | (go_at_call 39; with_reducible exact bw_of (CV.out _)) | (go_at_call 40; with_reducible exact bw_of (CF.out _)) | fail))
                    refine wpQuiet_nil ?_
                    rintro _ ⟨x, rfl⟩
                    have HX2 : Hid (Below w.heap.size w x.v) := HZ.out.trans (x.h.mono HZ.out.size)
                    go_wp2_with fail
                    go_ret
                    exact tb_no HX2.out
                  | true =>
                    go_wp2_with fail
                    refine wp_region_bw (by kernel_rfl) (by kernel_rfl) ?_
                    repeat (go_big_quiet_step (first | (go_at_call 39; with_reducible exact bw_of (CV.out _)) | (go_at_call 40; with_reducible exact bw_of (CF.out _)) | fail))
                    refine wpQuiet_nil ?_
                    rintro _ ⟨x, rfl⟩
                    have HX2 : Hid (Below w.heap.size w x.v) := HZ.out.trans (x.h.mono HZ.out.size)
                    have HOX2 := hide (HOZ.out.keep x.h)
                    have h2 := g2 x
                    have h4 := g4 x
                    obtain ⟨j, rfl⟩ : ∃ j : Nat, th = (j : Int) := ⟨th.toNat, by omega⟩
                    have hj : j < ns'.length := by omega
                    have hj' : (j : Int) < (ns.length : Int) := by omega
                    have n0 := HOX2.out.at hj
                    have nf := HOX2.out.froz j
                    have HST := hide (HOX2.out.stored j nw)
                    have HWS : Hid (Below w.heap.size w (x.v.setCell ⟨gn, j, none⟩ (.int .i64 nw))) := HX2.out.setCell hgn _
                    have hll : (ns'.set j nw).length = ns.length := by simp [hns]
                    clear g0 g1 g2 g3 g4
                    go_wp2_with fail
                    go_roundg (gk - 1)
                    case measure => omega
                    case rel => exact ⟨HWS.out, k + 1, by omega, by go_num, ns'.set j nw, hll, HST.out⟩
          · have C1 := hide (C1.out false (decide_eq_false h1))
            refine wp_region_bw (by kernel_rfl) (by kernel_rfl) ?_
            repeat (go_big_quiet_step (first | (go_at_call 27; with_reducible exact bw_of (C1.out _)) | fail))
            refine wpQuiet_nil ?_
            rintro _ ⟨z, rfl⟩
            have HZ : Hid (Below w.heap.size w z.v) := HWX.out.trans (z.h.mono HWX.out.size)
            go_wp2_with fail
            go_ret
            exact tb_no HZ.out
        · clear hd hbw
          go_wp2_with fail
          go_ret
          exact tb_yes HN6.out HW.out
end Go.Proofs.Ytnicjpfkiblimaa
