/-
  The walk of FnCheckOf.
-/
import Derived.Test.YtnicjpfkiblimaaCk7
import Derived.Deep.RegionHeld3
set_option linter.all false
namespace Go.Proofs.Ytnicjpfkiblimaa
open Go.RowKit
set_option maxHeartbeats 32000000 in
set_option maxRecDepth 100000 in
theorem fnCheckOf_walk (v : Value) (w : World) (h : BytesAt w v) :
    Calls Try.prog 3 #[v] w fun e w' => e = .returned (.bool true) ∧ Below w.heap.size w w' := by
  have hB := hide h
  obtain ⟨a, len, cap0, rfl, hlc, hcap0, hr⟩ := h
  clear hr
  by_cases hlen : 1048576 < len
  · go_enter Try.func3, Try.ntmps3
    go_wp2_with fail
    go_ret
    exact ⟨rfl, Below.refl _ _⟩
  go_enter Try.func3, Try.ntmps3
  go_wp2_with fail
  refine (drawCheckOf_any _ _ hB.out).mono ?_
  rintro e w1 ⟨cv, c, lv, l, rfl, hc, hn, hc6, hl21, hb⟩
  have H := hide hb
  have LC := hide hc
  have LN := hide hn
  have hw1 := hb.size
  obtain ⟨ca, cc, rfl, hcc, hcc2, hcd⟩ := hc
  obtain ⟨na, nc, rfl, -⟩ := hn
  clear hb hB hlen hlc hcap0
  go_wp2_with fail
  refine (iCheckOf_any _ _ c l _ LC.out LN.out).mono ?_
  rintro e w2 ⟨d, f, a3, ds, fs, av, rfl, hck, hrow, hb⟩
  have CK := hide hck
  have H := hide (H.out.trans (hb.mono H.out.size))
  have LC := hide (LC.out.keep hb)
  have LN := hide (LN.out.keep hb)
  have HB12 := hide hb
  have ND := hide hrow.1.1.nums
  have NF := hide hrow.1.2.1.nums
  have NA := hide hrow.2.1.nums
  obtain ⟨da, dn, dc, rfl⟩ := nums_slice ND.out
  obtain ⟨fa, fn, fc, rfl⟩ := nums_slice NF.out
  obtain ⟨aa, an, ac', rfl⟩ := nums_slice NA.out
  have DD := hide (dirD hck)
  clear hck hrow hb
  have hb := below_box w2 (.cells #[.slice da dn dc, .slice fa fn fc, .slice aa an ac'] 29)
  have H := hide (H.out.trans (hb.mono H.out.size))
  have LC := hide (LC.out.keep hb)
  have LN := hide (LN.out.keep hb)
  have ND := hide (ND.out.keep hb)
  have NF := hide (NF.out.keep hb)
  have NA := hide (NA.out.keep hb)
  have HB13 := hide (HB12.out.trans (hb.mono HB12.out.size))
  have BB := hide (blk_alloc w2 (.cells #[.slice da dn dc, .slice fa fn fc, .slice aa an ac'] 29))
  clear hb HB12
  go_wp2_with fail
  generalize hWx : w2.alloc (.cells #[.slice da dn dc, .slice fa fn fc, .slice aa an ac'] 29) = W at *
  generalize hgx : w2.heap.size = gB at *
  clear hWx hgx
  have lB := lt_block BB.out
  have HS : Hid (∀ z, Below W.heap.size W z → (z.cell? ⟨gB, 0, none⟩ = some (.slice da dn dc) ∧ z.cell? ⟨gB, 1, none⟩ = some (.slice fa fn fc) ∧ z.cell? ⟨gB, 2, none⟩ = some (.slice aa an ac'))) := fun z hz => ⟨(hz.cell (p := ⟨gB, 0, none⟩) lB).trans (cell_block BB.out 0), (hz.cell (p := ⟨gB, 1, none⟩) lB).trans (cell_block BB.out 1), (hz.cell (p := ⟨gB, 2, none⟩) lB).trans (cell_block BB.out 2)⟩
  have HD0 : Hid (Below W.heap.size W W.drew) := (Below.refl _ _).drew
  have hdl : dn = ds.length := by obtain ⟨x, y, e, -⟩ := ND.out; injection e
  have hfl : fn = fs.length := by obtain ⟨x, y, e, -⟩ := NF.out; injection e
  have hdf : dn = fn := by rw [hdl, hfl]; exact DD.out.ln
  subst hdf
  have dne : ((dn : Int) != (dn : Int)) = false := by simp
  have HDL := hide hdl
  have HFL := hide hfl
  clear hdl hfl
  go_wp2_with fail
  go_region_held3 (fun z => (z.cell? ⟨gB, 0, none⟩ = some (.slice da dn dc) ∧ z.cell? ⟨gB, 1, none⟩ = some (.slice fa dn fc) ∧ z.cell? ⟨gB, 2, none⟩ = some (.slice aa an ac'))) (first | with_reducible exact HS.out _ (Below.refl _ _) | with_reducible exact HS.out _ HD0.out | with_reducible exact HS.out _ HQ1.out | with_reducible exact HS.out _ HQ2.out) (first
    | (go_at_call 7; (with_reducible refine (sCheckOf_any _ _ c l _ (LC.out.keep HD0.out) (LN.out.keep HD0.out)).mono ?_); rintro e q1 ⟨d', f', a', ds', fs', as', rfl, hck', hrow', hb⟩; have HQ1 : Hid (Below W.heap.size W q1) := HD0.out.trans (hb.mono HD0.out.size); obtain ⟨hu1, hu2, hu3⟩ := CK.out.uniq hck'; have K1 := hide hrow'.1.1.nums; have K2 := hide hrow'.1.2.1.nums; have K3 := hide hrow'.2.1.nums; rw [hu1] at K1; rw [hu2] at K2; rw [hu3] at K3; obtain ⟨pa, pn, pc, rfl⟩ := nums_slice K1.out; obtain ⟨qa, qn, qc, rfl⟩ := nums_slice K2.out; obtain ⟨ra, rn, rc, rfl⟩ := nums_slice K3.out; clear hck' hrow' hb hu1 hu2 hu3)
    | (go_at_call 6; (with_reducible refine (equalCheck_same _ _ _ _ _ _ ds fs av _ (ND.out.keep HQ1.out) (NF.out.keep HQ1.out) (NA.out.keep HQ1.out) K1.out K2.out K3.out).mono ?_); rintro e q2 ⟨rfl, hb⟩; have HQ2 : Hid (Below W.heap.size W q2) := HQ1.out.trans (hb.mono HQ1.out.size); clear hb)
    | fail)
  have hb := HQ2.out
  have H := hide (H.out.trans (hb.mono H.out.size))
  have LC := hide (LC.out.keep hb)
  have LN := hide (LN.out.keep hb)
  have ND := hide (ND.out.keep hb)
  have NF := hide (NF.out.keep hb)
  have HB13 := hide (HB13.out.trans (hb.mono HB13.out.size))
  have BB := hide (blk_own hb BB.out)
  clear hb HS HD0 HQ1 HQ2 K1 K2 K3 NA lB
  have lB := lt_block BB.out
  have cB0 := cell_block BB.out 0
  have hdn : dn ≤ c.length := by have := DD.out.le; have := HDL.out; omega
  obtain ⟨xd, yd, ed, hdc, hdc2, hdd⟩ := ND.out
  injection ed with ed1 ed2 ed3
  subst ed1 ed3
  clear ed2
  obtain ⟨xf, yf, ef, hfc, hfc2, hfd⟩ := NF.out
  injection ef with ef1 ef2 ef3
  subst ef1 ef3
  clear ef2
  have hdc' : dn ≤ dc := by have := HDL.out; omega
  have hfc' : dn ≤ fc := by have := HFL.out; omega
  clear hdc hfc
  have HWC := hide (fun z (hz : Below q2.heap.size q2 z) => LC.out.keep hz)
  go_wp2_with fail
  go_loopg [6] dn (fun gk s6 wr => Below q2.heap.size q2 wr ∧ ∃ k : Nat, k + gk = dn ∧ s6 = .int .i64 (k : Int))
  case atStart => exact ⟨Below.refl _ _, 0, by omega, rfl⟩
  case round =>
    obtain ⟨hbw, k, hk, rfl⟩ := hrel
    have HW := hide hbw
    have BBr := hide (blk_own hbw BB.out)
    have lBr := lt_block BBr.out
    have cr0 := cell_block BBr.out 0
    have cr1 := cell_block BBr.out 1
    by_cases hlt : k < dn
    · have hkd : k < ds.length := by have := HDL.out; omega
      have hkf : k < fs.length := by have := HFL.out; omega
      obtain ⟨t, ht, hdt, hls, hasc⟩ := DD.out.at_ k hkd hkf
      obtain ⟨b1, off1, rfl, hb1, hcell1⟩ := hdd.resolve_left (by rintro rfl; simp at hkd)
      obtain ⟨b2, off2, rfl, hb2, hcell2⟩ := hfd.resolve_left (by rintro rfl; simp at hkf)
      obtain ⟨x3, y3, e3, -, -, hcd3⟩ := HWC.out _ hbw
      injection e3 with e31 e32 e33
      subst e31 e33
      clear e32
      obtain ⟨b3, off3, rfl, hb3, hcell3⟩ := hcd3.resolve_left (by rintro rfl; simp at ht)
      have e1 := (hbw.cell hb1).trans (hcell1 k hkd)
      have e2 := (hbw.cell hb2).trans (hcell2 k hkf)
      have e4 := (hcell3 t ht).2
      have hl1 := Nat.lt_of_lt_of_le hb1 hbw.size
      have hl2 := Nat.lt_of_lt_of_le hb2 hbw.size
      rw [hdt] at e1
      have ht' : (t : Int) < (c.length : Int) := by omega
      have ht0 : (0 : Int) ≤ (t : Int) := by omega
      have hk' : (k : Int) < (dn : Int) := by omega
      have hk0 : (0 : Int) ≤ (k : Int) := by omega
      have E5 : Hid (∀ h0 : 0 < k, ∃ xp : Int, wr.cell? ⟨b1, off1 + (k - 1), none⟩ = some (.int .i64 xp) ∧ xp < (t : Int)) := fun h0 => ⟨ds[k - 1]'(by omega), (hbw.cell hb1).trans (hcell1 (k - 1) (by omega)), by have := hasc h0; rw [hdt] at this; exact this⟩
      clear hcell1 hcell2 hcell3 hdd hfd hcd3 hbw hdt hasc
      generalize fs[k] = fk at *
      generalize c[t].lsn = ls at *
      have d1 : decide ((t : Int) < 0) = false := decide_eq_false (by omega)
      have d2 : decide ((c.length : Int) ≤ (t : Int)) = false := decide_eq_false (by omega)
      have d2' : decide (c.length ≤ t) = false := decide_eq_false (by omega)
      have d3 : decide (fk ≤ ls) = false := decide_eq_false (by omega)
      have g0 := fun z : BW wr => bw_cell (p := ⟨gB, 0, none⟩) lBr cr0 z
      have g1 := fun z : BW wr => bw_cell (p := ⟨gB, 1, none⟩) lBr cr1 z
      have g2 := fun z : BW wr => bw_cell (p := ⟨b2, off2 + k, none⟩) hl2 e2 z
      have g3 := fun z : BW wr => bw_cell (p := ⟨b3, off3 + t * 2 + 1, none⟩) hb3 e4 z
      by_cases hk00 : k = 0
      · have d4 : decide ((0 : Int) < (k : Int)) = false := decide_eq_false (by omega)
        have d4' : decide (0 < k) = false := decide_eq_false (by omega)
        have HK0 := hide hk00
        clear E5 hk00
        go_wp2_with fail
        refine wp_region_bw (by kernel_rfl) (by kernel_rfl) ?_
        repeat (go_big_quiet_step (fail))
        refine wpQuiet_nil ?_
        rintro _ ⟨z, rfl⟩
        have H1 : Hid (Below q2.heap.size q2 z.v) := HW.out.trans (z.h.mono HW.out.size)
        clear g0 g1 g2 g3
        go_wp2_with fail
        go_roundg (gk - 1)
        case measure => omega
        case rel => exact ⟨H1.out, k + 1, by omega, by go_num⟩
      · obtain ⟨j, rfl⟩ : ∃ j, k = j + 1 := ⟨k - 1, by omega⟩
        obtain ⟨xp, e5, hxp⟩ := E5.out (by omega)
        rw [show j + 1 - 1 = j by omega] at e5
        have d4 : decide ((0 : Int) < ((j + 1 : Nat) : Int)) = true := decide_eq_true (by omega)
        have d4' : decide ((0 : Int) < (j : Int) + 1) = true := decide_eq_true (by omega)
        have d5 : decide ((t : Int) ≤ xp) = false := decide_eq_false (by omega)
        have g5 := fun z : BW wr => bw_cell (p := ⟨b1, off1 + j, none⟩) hl1 e5 z
        have hj0 : (0 : Int) ≤ (j : Int) := by omega
        have hj1 : (j : Int) < (dn : Int) := by omega
        have hj2 : j < dn := by omega
        have w1 : IntKind.i64.wrap ((j : Int) + 1 - 1) = (j : Int) := by rw [show (j : Int) + 1 - 1 = (j : Int) by omega]; exact IntWalk.i64_in _ (by omega)
        clear E5 hk00
        go_wp2_with fail
        refine wp_region_bw (by kernel_rfl) (by kernel_rfl) ?_
        repeat (go_big_quiet_step (fail))
        refine wpQuiet_nil ?_
        rintro _ ⟨z, rfl⟩
        have H1 : Hid (Below q2.heap.size q2 z.v) := HW.out.trans (z.h.mono HW.out.size)
        clear g0 g1 g2 g3 g5 w1
        go_wp2_with fail
        go_roundg (gk - 1)
        case measure => omega
        case rel => exact ⟨H1.out, j + 2, by omega, by go_num⟩
    · have hkl : k = dn := by omega
      subst hkl
      have hb := hbw
      have H := hide (H.out.trans (hb.mono H.out.size))
      have LC := hide (LC.out.keep hb)
      have LN := hide (LN.out.keep hb)
      clear hb hbw HWC hdd hfd
      go_wp2_with fail
      refine (redoCells_any _ _ c l _ LC.out LN.out).mono ?_
      rintro e w8 ⟨v8, c', rfl, hc8, hu1, hu2, hb⟩
      have H := hide (H.out.trans (hb.mono H.out.size))
      have LN := hide (LN.out.keep hb)
      have LD := hide hc8
      have HU1 := hide hu1
      have HU2 := hide hu2
      obtain ⟨da8, dc8, rfl, -⟩ := hc8
      clear hb hu1 hu2
      by_cases h0 : c' = []
      · have dz : ((c'.length : Int) == 0) = true := by simp [h0]
        clear h0
        go_wp2_with fail
        go_ret
        exact ⟨rfl, H.out⟩
      · have dz : ((c'.length : Int) == 0) = false := by simpa using h0
        have HD : Hid (doneTo c' l l.length) := by
          by_cases hu : usP c l
          · exact (HU1.out hu).2
          · exact absurd (HU2.out hu) h0
        clear h0 HU1 HU2
        go_wp2_with fail
        refine (iCheckOf_any _ _ c' l _ LD.out LN.out).mono ?_
        rintro e w9 ⟨d9, f9, a9, ds9, fs9, av9, rfl, hck9, hrow9, hb⟩
        have H := hide (H.out.trans (hb.mono H.out.size))
        have e9 := redo_clean hck9 HD.out
        subst e9
        obtain ⟨xa, xc, rfl, -⟩ := hrow9.1.1.nums
        have hfd : ∀ w : World, (Instr.field 29 (.agg #[.slice xa 0 xc, f9, a9]) 0).run Try.prog w = .ok (.slice xa 0 xc) w := fun _ => by kernel_rfl
        clear hck9 hrow9 hb
        simp only [List.length_nil]
        go_wp2_with fail
        go_ret
        exact ⟨rfl, H.out⟩
end Go.Proofs.Ytnicjpfkiblimaa
