/-
  The walk of FnBuildOnline.
-/
import Derived.Test.YtppbmhlmbepneaaWkBase
set_option linter.all false
namespace Go.Proofs.Ytppbmhlmbepneaa
open Go.RowKit
set_option maxHeartbeats 16000000 in
set_option maxRecDepth 100000 in
theorem fnBuildOnline_walk (v : Value) (w : World) (h : BytesAt w v) :
    Calls Try.prog 8 #[v] w fun e w' => e = .returned (.bool true) ∧ Below w.heap.size w w' := by
  have hB := hide h
  obtain ⟨a, len, cap0, rfl, hlc, hcap0, hr⟩ := h
  clear hr
  obtain ⟨i0, hi, hz0, hz1, hz2⟩ := info_parts infoMove
  by_cases hlen : 1048576 < len
  · go_enter Try.func8, Try.ntmps8
    go_wp2_with fail
    go_ret
    exact ⟨rfl, Below.refl _ _⟩
  go_enter Try.func8, Try.ntmps8
  go_wp2_with fail
  refine (drawBuildOnline_any _ _ hB.out).mono ?_
  rintro e w1 ⟨vr, l, vm, ms, rfl, hoi, hom, hl9, hm17, hb⟩
  have H := hide hb
  have RI := hide hoi.itms
  have RM := hide hom.rows
  have NL := hide (nilOk_own hoi)
  have OM := hide hom
  obtain ⟨ra0, rc0, rfl, -⟩ := own_slc hoi
  obtain ⟨ma0, mc0, rfl, -⟩ := own_slc hom
  clear hb hoi hom hB hlen hlc hcap0
  go_wp2_with fail
  refine (iBuildOnline_any _ _ l ms _ RI.out RM.out).mono ?_
  rintro e w2 ⟨v2, r2, rfl, hrel, ho, hb⟩
  have H : Hid (Below w.heap.size w w2) := H.out.trans (hb.mono H.out.size)
  have RI := hide (RI.out.keep hb)
  have RM := hide (RM.out.keep hb)
  have CK2 := hide hrel
  have V2 := hide ho.itms
  obtain ⟨a2, c2, rfl, -⟩ := own_slc ho
  clear hrel hb ho
  go_wp2_with fail
  refine (sBuildOnline_any _ _ l ms _ RI.out NL.out RM.out).mono ?_
  rintro e w3 ⟨v3, r3, rfl, hrel, ho, hb⟩
  have H : Hid (Below w.heap.size w w3) := H.out.trans (hb.mono H.out.size)
  have RI := hide (RI.out.keep hb)
  have RM := hide (RM.out.keep hb)
  have V2 := hide (V2.out.keep hb)
  have CK3 := hide hrel
  have V3 := hide ho.itms
  obtain ⟨a3, c3, rfl, -⟩ := own_slc ho
  clear hrel hb ho
  have hu := BldOf.uniq CK3.out CK2.out
  subst hu
  go_wp2_with fail
  refine (equalItems_same _ _ r3 _ V2.out V3.out).mono ?_
  rintro e w4 ⟨rfl, hb⟩
  have H : Hid (Below w.heap.size w w4) := H.out.trans (hb.mono H.out.size)
  have RI := hide (RI.out.keep hb)
  have RM := hide (RM.out.keep hb)
  have V2 := hide (V2.out.keep hb)
  have V3 := hide (V3.out.keep hb)
  clear hb
  clear V3
  by_cases h16 : (16 : Int) < (ms.length : Int)
  · have d16 : decide ((16 : Int) < (ms.length : Int)) = true := decide_eq_true h16
    go_wp2_with fail
    refine (sBuildOnline_any _ _ l ms _ RI.out NL.out RM.out).mono ?_
    rintro e w5 ⟨v5, r5, rfl, hrel, ho, hb⟩
    have H : Hid (Below w.heap.size w w5) := H.out.trans (hb.mono H.out.size)
    have RI := hide (RI.out.keep hb)
    have RM := hide (RM.out.keep hb)
    have V2 := hide (V2.out.keep hb)
    have CK5 := hide hrel
    have V5 := hide ho.itms
    obtain ⟨a5, c5, rfl, -⟩ := own_slc ho
    clear hrel hb ho
    have hu := BldOf.uniq CK5.out CK2.out
    subst hu
    go_wp2_with fail
    refine (equalItems_same _ _ r5 _ V2.out V5.out).mono ?_
    rintro e w6 ⟨rfl, hb⟩
    have H : Hid (Below w.heap.size w w6) := H.out.trans (hb.mono H.out.size)
    have RI := hide (RI.out.keep hb)
    have RM := hide (RM.out.keep hb)
    have V2 := hide (V2.out.keep hb)
    have V5 := hide (V5.out.keep hb)
    clear hb
    go_wp2_with fail
    go_ret
    exact ⟨rfl, H.out⟩
  have d16 : decide ((16 : Int) < (ms.length : Int)) = false := decide_eq_false h16
  have HL16 : Hid (ms.length ≤ 16) := by unfold Hid; omega
  clear h16
  go_wp2_with fail
  refine (iRowsAfter_any _ _ l ms _ RI.out RM.out).mono ?_
  rintro e w7 ⟨v5, r5, rfl, hrel, ho, hb⟩
  have H : Hid (Below w.heap.size w w7) := H.out.trans (hb.mono H.out.size)
  have RI := hide (RI.out.keep hb)
  have RM := hide (RM.out.keep hb)
  have V2 := hide (V2.out.keep hb)
  have CK5 := hide hrel
  have V5 := hide ho.itms
  obtain ⟨a5, c5, rfl, -⟩ := own_slc ho
  clear hrel hb ho
  go_wp2_with fail
  refine (iIndexOf_any _ r5 _ V5.out).mono ?_
  rintro e w8 ⟨v6, r6, rfl, hrel, ho, hb⟩
  have H : Hid (Below w.heap.size w w8) := H.out.trans (hb.mono H.out.size)
  have RI := hide (RI.out.keep hb)
  have RM := hide (RM.out.keep hb)
  have V2 := hide (V2.out.keep hb)
  have V5 := hide (V5.out.keep hb)
  have V6 := hide ho.itms
  have hu := BldOf.idx CK2.out CK5.out hrel.1
  subst hu
  clear hrel ho hb
  go_wp2_with fail
  refine (equalItems_same _ _ r6 _ V2.out V6.out).mono ?_
  rintro e w9 ⟨rfl, hb⟩
  have H : Hid (Below w.heap.size w w9) := H.out.trans (hb.mono H.out.size)
  have RI := hide (RI.out.keep hb)
  have RM := hide (RM.out.keep hb)
  have V2 := hide (V2.out.keep hb)
  have V5 := hide (V5.out.keep hb)
  have V6 := hide (V6.out.keep hb)
  clear hb
  go_wp2_with fail
  go_ret
  exact ⟨rfl, H.out⟩
end Go.Proofs.Ytppbmhlmbepneaa
