/-
  Which changes are possible.
-/
import Derived.Test.YtdijcdadcbhipaaDoorFW
set_option linter.all false
namespace Go.Proofs.YtdijcdadcbhipaaDoor
open Go.RowKit
def posB (f : List RCol) (c : RChg) : Bool :=
  if c.k = 1 then decide (0 ≤ c.a ∧ c.a ≤ (f.length : Int)) && decide (f.length < 5) && colB c.c
  else if c.k = 2 then decide (0 ≤ c.a ∧ c.a < (f.length : Int)) && decide (1 < f.length)
  else if c.k = 3 then decide (0 ≤ c.a) && f[c.a.toNat]?.any (fun x => decide (x.k = 1))
  else false
set_option maxHeartbeats 8000000 in
set_option maxRecDepth 100000 in
theorem possible_lit (k at' ck dk dn : Int) (s : ByteArray) (v : Value) (f : List RCol) (w : World) (h : Recs cEnc 4 w v f) :
    Calls Tryd.prog 54 #[.agg #[.int .i64 k, .int .i64 at', .int .i64 ck, .int .i64 dk, .int .i64 dn, .string s], v] w fun e w' => e = .returned (.bool (posB f ⟨k, at', ⟨ck, ⟨dk, dn, s⟩⟩⟩)) ∧ Below w.heap.size w w' := by
  obtain ⟨a, cap, rfl, hl, hcap, -, hd⟩ := h
  obtain ⟨R, hR⟩ : ∃ R, R = posB f ⟨k, at', ⟨ck, ⟨dk, dn, s⟩⟩⟩ := ⟨_, rfl⟩
  rw [← hR]
  have HV := hide (icolValid_lit ck dk dn s)
  have HB := hide (below_box w (.cells #[.int .i64 k, .int .i64 at', .int .i64 ck, .int .i64 dk, .int .i64 dn, .string s] 29))
  by_cases k1 : k = 1
  · subst k1
    clear hd
    by_cases a0 : 0 ≤ at'
    · by_cases a1 : at' ≤ (f.length : Int)
      · by_cases l5 : f.length < 5
        · have HR : Hid (R = colB ⟨ck, ⟨dk, dn, s⟩⟩) := by unfold Hid; rw [hR]; simp [posB, a0, a1, l5]
          clear hR
          go_enter Tryd.func54, Tryd.ntmps54
          go_wp2_with fail
          with_reducible refine (HV.out _).mono ?_
          rintro e w1 ⟨rfl, hb1⟩
          have H1 := hide (HB.out.trans (hb1.mono HB.out.size))
          clear hb1
          go_wp2_with fail
          go_ret
          exact ⟨ret_bool HR.out.symm, H1.out⟩
        · have HR : Hid (R = false) := by unfold Hid; rw [hR]; simp [posB, l5]
          clear hR
          go_enter Tryd.func54, Tryd.ntmps54
          go_wp2_with fail
          go_ret
          exact ⟨ret_bool HR.out.symm, HB.out⟩
      · have HR : Hid (R = false) := by unfold Hid; rw [hR]; simp [posB, a1]
        clear hR
        go_enter Tryd.func54, Tryd.ntmps54
        go_wp2_with fail
        go_ret
        exact ⟨ret_bool HR.out.symm, HB.out⟩
    · have HR : Hid (R = false) := by unfold Hid; rw [hR]; simp [posB, a0]
      clear hR
      go_enter Tryd.func54, Tryd.ntmps54
      go_wp2_with fail
      go_ret
      exact ⟨ret_bool HR.out.symm, HB.out⟩
  obtain ⟨x1, y1⟩ := i64_neq k1
  by_cases k2 : k = 2
  · subst k2
    clear hd HV
    by_cases a0 : 0 ≤ at'
    · by_cases a1 : at' < (f.length : Int)
      · have HR : Hid (R = decide ((1 : Int) < (f.length : Int))) := by unfold Hid; rw [hR]; simp [posB, a0, a1]; omega
        clear hR
        go_enter Tryd.func54, Tryd.ntmps54
        go_wp2_with fail
        go_ret
        exact ⟨ret_bool (by rw [HR.out]), HB.out⟩
      · have HR : Hid (R = false) := by unfold Hid; rw [hR]; simp [posB, a1]
        clear hR
        go_enter Tryd.func54, Tryd.ntmps54
        go_wp2_with fail
        go_ret
        exact ⟨ret_bool HR.out.symm, HB.out⟩
    · have HR : Hid (R = false) := by unfold Hid; rw [hR]; simp [posB, a0]
      clear hR
      go_enter Tryd.func54, Tryd.ntmps54
      go_wp2_with fail
      go_ret
      exact ⟨ret_bool HR.out.symm, HB.out⟩
  obtain ⟨x2, y2⟩ := i64_neq k2
  by_cases k3 : k = 3
  · subst k3
    clear HV
    by_cases a0 : 0 ≤ at'
    · obtain ⟨i, rfl⟩ : ∃ i : Nat, at' = (i : Int) := ⟨at'.toNat, by omega⟩
      by_cases a1 : i < f.length
      · have HR : Hid (R = (f[i].k == 1)) := by unfold Hid; rw [hR]; simp [posB, a1]; rfl
        obtain ⟨b, off, rfl, hbb, hcell⟩ := hd.resolve_left (by rintro rfl; simp at a1)
        have e0 := (at4 (hcell i a1)).1
        have e1 := Below.keep_cell e0 (.cells #[.int .i64 3, .int .i64 (i : Int), .int .i64 ck, .int .i64 dk, .int .i64 dn, .string s] 29)
        clear hR hd hcell
        go_enter Tryd.func54, Tryd.ntmps54
        go_wp2_with fail
        go_ret
        exact ⟨ret_bool (by rw [HR.out]), HB.out⟩
      · have HR : Hid (R = false) := by unfold Hid; rw [hR]; simp [posB, a1]
        clear hR hd
        go_enter Tryd.func54, Tryd.ntmps54
        go_wp2_with fail
        go_ret
        exact ⟨ret_bool HR.out.symm, HB.out⟩
    · have HR : Hid (R = false) := by unfold Hid; rw [hR]; simp [posB, a0]
      clear hR hd
      go_enter Tryd.func54, Tryd.ntmps54
      go_wp2_with fail
      go_ret
      exact ⟨ret_bool HR.out.symm, HB.out⟩
  obtain ⟨x3, y3⟩ := i64_neq k3
  have HR : Hid (R = false) := by unfold Hid; rw [hR]; simp [posB, k1, k2, k3]
  clear hR hd HV
  go_enter Tryd.func54, Tryd.ntmps54
  go_wp2_with fail
  go_ret
  exact ⟨ret_bool HR.out.symm, HB.out⟩
theorem possible_any (c : RChg) (v : Value) (f : List RCol) (w : World) (h : Recs cEnc 4 w v f) :
    Calls Tryd.prog 54 #[(.agg #[.int .i64 c.k, .int .i64 c.a, .int .i64 c.c.k, .int .i64 c.c.d.k, .int .i64 c.c.d.n, .string c.c.d.s]), v] w fun e w' => e = .returned (.bool (posB f c)) ∧ Below w.heap.size w w' := possible_lit c.k c.a c.c.k c.c.d.k c.c.d.n c.c.d.s v f w h
end Go.Proofs.YtdijcdadcbhipaaDoor
