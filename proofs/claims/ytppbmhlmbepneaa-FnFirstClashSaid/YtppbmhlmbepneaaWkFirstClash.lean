/-
  The walk of FnFirstClash.
-/
import Derived.Test.YtppbmhlmbepneaaWkBase
import Derived.Test.YtppbmhlmbepneaaMovesGen2
set_option linter.all false
namespace Go.Proofs.Ytppbmhlmbepneaa
open Go.RowKit
set_option maxHeartbeats 16000000 in
set_option maxRecDepth 100000 in
theorem fnFirstClash_walk (v : Value) (w : World) (h : BytesAt w v) :
    Calls Try.prog 11 #[v] w fun e w' => e = .returned (.bool true) ∧ Below w.heap.size w w' := by
  have hB := hide h
  obtain ⟨a, len, cap0, rfl, hlc, hcap0, hr⟩ := h
  clear hr
  obtain ⟨i0, hi, hz0, hz1, hz2⟩ := info_parts infoMove
  by_cases hlen : 1048576 < len
  · go_enter Try.func11, Try.ntmps11
    go_wp2_with fail
    go_ret
    exact ⟨rfl, Below.refl _ _⟩
  go_enter Try.func11, Try.ntmps11
  go_wp2_with fail
  refine (drawFirstClash_any _ _ hB.out).mono ?_
  rintro e w1 ⟨vr, l, vm, ms, rfl, hoi, hom, hl9, hm17, hb⟩
  have H := hide hb
  have RI := hide hoi.itms
  have RM := hide hom.rows
  have NL := hide (nilOk_own hoi)
  have OM := hide hom
  obtain ⟨ra0, rc0, rfl, -⟩ := own_slc hoi
  obtain ⟨ma0, mc0, rfl, -⟩ := own_slc hom
  clear hb hoi hom hB hlen hlc hcap0
  go_wp2_with fail
  refine (iFirstClash_any _ _ l ms _ RI.out RM.out).mono ?_
  rintro e w2 ⟨r2, rfl, hrel, hb⟩
  have H : Hid (Below w.heap.size w w2) := H.out.trans (hb.mono H.out.size)
  have RI := hide (RI.out.keep hb)
  have RM := hide (RM.out.keep hb)
  have CK2 := hide hrel
  clear hrel hb
  go_wp2_with fail
  refine (sFirstClash_any _ _ l ms _ RI.out NL.out RM.out).mono ?_
  rintro e w3 ⟨r3, rfl, hrel, hb⟩
  have H : Hid (Below w.heap.size w w3) := H.out.trans (hb.mono H.out.size)
  have RI := hide (RI.out.keep hb)
  have RM := hide (RM.out.keep hb)
  have CK3 := hide hrel
  clear hrel hb
  have hu := ClsOf.uniq CK3.out CK2.out
  subst hu
  by_cases hneg : r3 < 0
  · have dn : decide (r3 < 0) = true := decide_eq_true hneg
    have HNG := hide hneg
    clear hneg
    go_wp2_with fail
    refine (sFirstClash_any _ _ l ms _ RI.out NL.out RM.out).mono ?_
    rintro e w4 ⟨r5, rfl, hrel, hb⟩
    have H : Hid (Below w.heap.size w w4) := H.out.trans (hb.mono H.out.size)
    have RI := hide (RI.out.keep hb)
    have RM := hide (RM.out.keep hb)
    have CK5 := hide hrel
    clear hrel hb
    have hu := ClsOf.uniq CK5.out CK2.out
    subst hu
    go_wp2_with fail
    go_ret
    exact ⟨rfl, H.out⟩
  have dn : decide (r3 < 0) = false := decide_eq_false hneg
  by_cases hge : (ms.length : Int) ≤ r3
  · have dg : decide ((ms.length : Int) ≤ r3) = true := decide_eq_true hge
    have HGE := hide hge
    clear hge
    go_wp2_with fail
    refine (sFirstClash_any _ _ l ms _ RI.out NL.out RM.out).mono ?_
    rintro e w5 ⟨r5, rfl, hrel, hb⟩
    have H : Hid (Below w.heap.size w w5) := H.out.trans (hb.mono H.out.size)
    have RI := hide (RI.out.keep hb)
    have RM := hide (RM.out.keep hb)
    have CK5 := hide hrel
    clear hrel hb
    have hu := ClsOf.uniq CK5.out CK2.out
    subst hu
    go_wp2_with fail
    go_ret
    exact ⟨rfl, H.out⟩
  have dg : decide ((ms.length : Int) ≤ r3) = false := decide_eq_false hge
  obtain ⟨k, rfl⟩ : ∃ k : Nat, r3 = (k : Int) := ⟨r3.toNat, by omega⟩
  have hkl : k < ms.length := by omega
  clear hneg hge
  have R1 := hide (moves_take RM.out (k + 1) (by omega))
  have R0 := hide (moves_take RM.out k (by omega))
  have hmc := moves_cap RM.out
  have b0 : (0 : Int) ≤ (k : Int) := by omega
  have b1 : (k : Int) + 1 ≤ (mc0 : Int) := by omega
  have b2 : (k : Int) ≤ (mc0 : Int) := by omega
  go_wp2_with fail
  refine (iCanBeUnique_any _ _ l (ms.take (k + 1)) _ RI.out R1.out).mono ?_
  rintro e w6 ⟨r6, rfl, hrel, hb⟩
  have H : Hid (Below w.heap.size w w6) := H.out.trans (hb.mono H.out.size)
  have RI := hide (RI.out.keep hb)
  have RM := hide (RM.out.keep hb)
  have R1 := hide (R1.out.keep hb)
  have R0 := hide (R0.out.keep hb)
  have CK6 := hide hrel
  clear hrel hb
  obtain ⟨b0, hb0⟩ := CanOf.ex l (ms.take k)
  obtain ⟨h6, -⟩ := ClsOf.at CK2.out rfl hkl CK6.out hb0
  subst h6
  clear hb0
  have HC6 := hide CK6.out
  go_wp2_with fail
  refine (iCanBeUnique_any _ _ l (ms.take k) _ RI.out R0.out).mono ?_
  rintro e w7 ⟨r7, rfl, hrel, hb⟩
  have H : Hid (Below w.heap.size w w7) := H.out.trans (hb.mono H.out.size)
  have RI := hide (RI.out.keep hb)
  have RM := hide (RM.out.keep hb)
  have R1 := hide (R1.out.keep hb)
  have R0 := hide (R0.out.keep hb)
  have CK7 := hide hrel
  clear hrel hb
  obtain ⟨-, h7⟩ := ClsOf.at CK2.out rfl hkl HC6.out CK7.out
  subst h7
  go_wp2_with fail
  go_ret
  exact ⟨rfl, H.out⟩
end Go.Proofs.Ytppbmhlmbepneaa
