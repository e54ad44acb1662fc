/-
  Which columns and formats are valid: the program's and the specification's test.
-/
import Derived.Test.YtdijcdadcbhipaaDoorFV
set_option linter.all false
namespace Go.Proofs.YtdijcdadcbhipaaDoor
open Go.RowKit
def colB (c : RCol) : Bool := decide (c.k = 1 ∨ c.k = 2) && valB c.d && (decide (c.d.k = c.k) || decide (c.d.k = 0))
theorem i64_neq {a b : Int} (h : a ≠ b) : (a == b) = false ∧ (a != b) = true := by simp [h]
set_option maxHeartbeats 2000000 in
theorem icolValid_lit (k dk dn : Int) (s : ByteArray) (w : World) :
    Calls Tryd.prog 61 #[.agg #[.int .i64 k, .int .i64 dk, .int .i64 dn, .string s]] w fun e w' => e = .returned (.bool (colB ⟨k, ⟨dk, dn, s⟩⟩)) ∧ Below w.heap.size w w' := by
  obtain ⟨R, hR⟩ : ∃ R, R = colB ⟨k, ⟨dk, dn, s⟩⟩ := ⟨_, rfl⟩
  rw [← hR]
  have HV := hide (ivalidValue_lit dk dn s)
  have HB := hide (below_box w (.cells #[.int .i64 k, .int .i64 dk, .int .i64 dn, .string s] 27))
  have HX := hide (blk_alloc w (.cells #[.int .i64 k, .int .i64 dk, .int .i64 dn, .string s] 27))
  by_cases hk : k = 1 ∨ k = 2
  · cases hv : valB ⟨dk, dn, s⟩ with
    | false =>
      have HR : Hid (R = false) := by unfold Hid; rw [hR]; simp [colB, hv]
      rw [hv] at HV
      clear hR hv
      rcases hk with rfl | rfl
      all_goals
        go_enter Tryd.func61, Tryd.ntmps61
        go_wp2_with fail
        refine (HV.out _).mono ?_
        rintro e w1 ⟨rfl, hb1⟩
        have H1 := hide (HB.out.trans (hb1.mono HB.out.size))
        clear hb1
        go_wp2_with fail
        go_ret
        exact ⟨ret_bool HR.out.symm, H1.out⟩
    | true =>
      rw [hv] at HV
      by_cases q1 : dk = k
      · subst q1
        have HR : Hid (R = true) := by unfold Hid; rw [hR]; simp [colB, hv, hk]
        clear hR hv
        rcases hk with rfl | rfl
        all_goals
          go_enter Tryd.func61, Tryd.ntmps61
          go_wp2_with fail
          refine (HV.out _).mono ?_
          rintro e w1 ⟨rfl, hb1⟩
          have H1 := hide (HB.out.trans (hb1.mono HB.out.size))
          obtain ⟨⟨e0, e1, e2, e3⟩, -⟩ := cells4 (blk_own hb1 HX.out)
          clear hb1
          go_wp2_with fail
          go_ret
          exact ⟨ret_bool HR.out.symm, H1.out⟩
      · have HR : Hid (R = decide (dk = 0)) := by unfold Hid; rw [hR]; simp [colB, hv, hk, q1]
        obtain ⟨f1, f2⟩ := i64_neq q1
        clear hR hv q1
        by_cases q0 : dk = 0
        · subst q0
          rcases hk with rfl | rfl
          all_goals
            go_enter Tryd.func61, Tryd.ntmps61
            go_wp2_with fail
            refine (HV.out _).mono ?_
            rintro e w1 ⟨rfl, hb1⟩
            have H1 := hide (HB.out.trans (hb1.mono HB.out.size))
            obtain ⟨⟨e0, e1, e2, e3⟩, -⟩ := cells4 (blk_own hb1 HX.out)
            clear hb1
            go_wp2_with fail
            go_ret
            exact ⟨ret_bool HR.out.symm, H1.out⟩
        · have HR : Hid (R = false) := by unfold Hid; rw [HR.out]; exact decide_eq_false q0
          obtain ⟨f3, f4⟩ := i64_neq q0
          clear q0
          rcases hk with rfl | rfl
          all_goals
            go_enter Tryd.func61, Tryd.ntmps61
            go_wp2_with fail
            refine (HV.out _).mono ?_
            rintro e w1 ⟨rfl, hb1⟩
            have H1 := hide (HB.out.trans (hb1.mono HB.out.size))
            obtain ⟨⟨e0, e1, e2, e3⟩, -⟩ := cells4 (blk_own hb1 HX.out)
            clear hb1
            go_wp2_with fail
            go_ret
            exact ⟨ret_bool HR.out.symm, H1.out⟩
  · have HR : Hid (R = false) := by unfold Hid; rw [hR]; simp [colB]; intro h; exact absurd h hk
    obtain ⟨f1, f2⟩ := i64_neq (fun h => hk (.inl h))
    obtain ⟨f3, f4⟩ := i64_neq (fun h => hk (.inr h))
    clear hR hk
    go_enter Tryd.func61, Tryd.ntmps61
    go_wp2_with fail
    go_ret
    exact ⟨ret_bool HR.out.symm, HB.out⟩
theorem icolValid_any (c : RCol) (w : World) :
    Calls Tryd.prog 61 #[(.agg #[.int .i64 c.k, .int .i64 c.d.k, .int .i64 c.d.n, .string c.d.s])] w fun e w' => e = .returned (.bool (colB c)) ∧ Below w.heap.size w w' := icolValid_lit c.k c.d.k c.d.n c.d.s w
set_option maxHeartbeats 2000000 in
theorem svalidColumn_lit (k dk dn : Int) (s : ByteArray) (w : World) (hs : s.size ≤ 9223372036854775807) :
    Calls Tryd.prog 93 #[.agg #[.int .i64 k, .int .i64 dk, .int .i64 dn, .string s]] w fun e w' => e = .returned (.bool (colB ⟨k, ⟨dk, dn, s⟩⟩)) ∧ Below w.heap.size w w' := by
  obtain ⟨R, hR⟩ : ∃ R, R = colB ⟨k, ⟨dk, dn, s⟩⟩ := ⟨_, rfl⟩
  rw [← hR]
  have HV := hide (fun w => svalidValue_lit dk dn s w hs)
  have HB := hide (below_box w (.cells #[.int .i64 k, .int .i64 dk, .int .i64 dn, .string s] 27))
  have HX := hide (blk_alloc w (.cells #[.int .i64 k, .int .i64 dk, .int .i64 dn, .string s] 27))
  have HI : Hid (∀ w, Calls Tryd.prog 83 #[.int .i64 k, .int .i64 1, .int .i64 2] w fun e w' => e = .returned (.bool (decide (k = 1 ∨ k = 2))) ∧ w = w') := fun w => (inRange_any k 1 2 w).mono fun e w' ⟨h1, h2⟩ => ⟨h1.trans (ret_bool (decide_eq_decide.2 (by omega))), h2⟩
  by_cases hk : k = 1 ∨ k = 2
  · rw [decide_eq_true hk] at HI
    cases hv : valB ⟨dk, dn, s⟩ with
    | false =>
      have HR : Hid (R = false) := by unfold Hid; rw [hR]; simp [colB, hv]
      rw [hv] at HV
      clear hR hv
      rcases hk with rfl | rfl
      all_goals
        go_enter Tryd.func93, Tryd.ntmps93
        go_wp2_with fail
        refine (HI.out _).mono ?_
        rintro e _ ⟨rfl, rfl⟩
        go_wp2_with fail
        refine (HV.out _).mono ?_
        rintro e w1 ⟨rfl, hb1⟩
        have H1 := hide (HB.out.trans (hb1.mono HB.out.size))
        clear hb1
        go_wp2_with fail
        go_ret
        exact ⟨ret_bool HR.out.symm, H1.out⟩
    | true =>
      rw [hv] at HV
      by_cases q1 : dk = k
      · subst q1
        have HR : Hid (R = true) := by unfold Hid; rw [hR]; simp [colB, hv, hk]
        clear hR hv
        rcases hk with rfl | rfl
        all_goals
          go_enter Tryd.func93, Tryd.ntmps93
          go_wp2_with fail
          refine (HI.out _).mono ?_
          rintro e _ ⟨rfl, rfl⟩
          go_wp2_with fail
          refine (HV.out _).mono ?_
          rintro e w1 ⟨rfl, hb1⟩
          have H1 := hide (HB.out.trans (hb1.mono HB.out.size))
          obtain ⟨⟨e0, e1, e2, e3⟩, -⟩ := cells4 (blk_own hb1 HX.out)
          clear hb1
          go_wp2_with fail
          go_ret
          exact ⟨ret_bool HR.out.symm, H1.out⟩
      · have HR : Hid (R = decide (dk = 0)) := by unfold Hid; rw [hR]; simp [colB, hv, hk, q1]
        obtain ⟨f1, f2⟩ := i64_neq q1
        clear hR hv q1
        by_cases q0 : dk = 0
        · subst q0
          rcases hk with rfl | rfl
          all_goals
            go_enter Tryd.func93, Tryd.ntmps93
            go_wp2_with fail
            refine (HI.out _).mono ?_
            rintro e _ ⟨rfl, rfl⟩
            go_wp2_with fail
            refine (HV.out _).mono ?_
            rintro e w1 ⟨rfl, hb1⟩
            have H1 := hide (HB.out.trans (hb1.mono HB.out.size))
            obtain ⟨⟨e0, e1, e2, e3⟩, -⟩ := cells4 (blk_own hb1 HX.out)
            clear hb1
            go_wp2_with fail
            go_ret
            exact ⟨ret_bool HR.out.symm, H1.out⟩
        · have HR : Hid (R = false) := by unfold Hid; rw [HR.out]; exact decide_eq_false q0
          obtain ⟨f3, f4⟩ := i64_neq q0
          clear q0
          rcases hk with rfl | rfl
          all_goals
            go_enter Tryd.func93, Tryd.ntmps93
            go_wp2_with fail
            refine (HI.out _).mono ?_
            rintro e _ ⟨rfl, rfl⟩
            go_wp2_with fail
            refine (HV.out _).mono ?_
            rintro e w1 ⟨rfl, hb1⟩
            have H1 := hide (HB.out.trans (hb1.mono HB.out.size))
            obtain ⟨⟨e0, e1, e2, e3⟩, -⟩ := cells4 (blk_own hb1 HX.out)
            clear hb1
            go_wp2_with fail
            go_ret
            exact ⟨ret_bool HR.out.symm, H1.out⟩
  · rw [decide_eq_false hk] at HI
    have HR : Hid (R = false) := by unfold Hid; rw [hR]; simp [colB]; intro h; exact absurd h hk
    obtain ⟨f1, f2⟩ := i64_neq (fun h => hk (.inl h))
    obtain ⟨f3, f4⟩ := i64_neq (fun h => hk (.inr h))
    clear hR hk
    go_enter Tryd.func93, Tryd.ntmps93
    go_wp2_with fail
    refine (HI.out _).mono ?_
    rintro e _ ⟨rfl, rfl⟩
    go_wp2_with fail
    go_ret
    exact ⟨ret_bool HR.out.symm, HB.out⟩
theorem svalidColumn_any (c : RCol) (w : World) (hc : okC c) :
    Calls Tryd.prog 93 #[(.agg #[.int .i64 c.k, .int .i64 c.d.k, .int .i64 c.d.n, .string c.d.s])] w fun e w' => e = .returned (.bool (colB c)) ∧ Below w.heap.size w w' := svalidColumn_lit c.k c.d.k c.d.n c.d.s w hc
def fmtB (f : List RCol) : Bool := decide (1 ≤ f.length ∧ f.length ≤ 5) && f.all colB
theorem fmt_bad {f : List RCol} {k : Nat} (h : k < f.length) (hb : colB f[k] = false) : fmtB f = false := by
  unfold fmtB; rw [all_at_false h hb]; simp
theorem fmt_len {f : List RCol} (h : ¬ (1 ≤ f.length ∧ f.length ≤ 5)) : fmtB f = false := by
  unfold fmtB; simp [h]
set_option maxHeartbeats 4000000 in
theorem ivalidFormat_any (v : Value) (f : List RCol) (w : World) (h : Recs cEnc 4 w v f) :
    Calls Tryd.prog 19 #[v] w fun e w' => e = .returned (.bool (fmtB f)) ∧ Below w.heap.size w w' := by
  obtain ⟨a, cap, rfl, hl, hcap, -, hd⟩ := h
  obtain ⟨R, hR⟩ : ∃ R, R = fmtB f := ⟨_, rfl⟩
  rw [← hR]
  by_cases hlen : 1 ≤ f.length ∧ f.length ≤ 5
  · obtain ⟨h1, h5⟩ := hlen
    have HR := hide hR
    clear hR
    go_enter Tryd.func19, Tryd.ntmps19
    go_wp2_with fail
    go_loopg [15] f.length (fun gk s15 wr => Below w.heap.size w wr ∧ ∃ k : Nat, k + gk = f.length ∧ s15 = .int .i64 (k : Int) ∧ (f.take k).all colB = true)
    case atStart => exact ⟨Below.refl _ _, 0, by omega, rfl, rfl⟩
    case round =>
      obtain ⟨hbw, k, hk, rfl, hall⟩ := hrel
      have HA := hide hall
      have HW := hide hbw
      clear hall
      by_cases hlt : k < f.length
      · obtain ⟨b, off, rfl, hbb, hcell⟩ := hd.resolve_left (by rintro rfl; simp at hlt)
        have e := at4 (fun j u hu => (hbw.cell (p := ⟨b, _, none⟩) hbb).trans (hcell k hlt j u hu))
        have HS : Hid ((f.take (k + 1)).all colB = colB f[k]) := by unfold Hid; rw [take_all_snoc hlt, HA.out]; rfl
        have HF := hide (fun hb => fmt_bad hlt hb)
        obtain ⟨c, hc⟩ : ∃ c, f[k] = c := ⟨_, rfl⟩
        rw [hc] at e HS HF
        obtain ⟨e0, e1, e2, e3⟩ := e
        have HV := hide (icolValid_any c)
        clear hd hcell hbw hc
        cases hv : colB c with
        | true =>
          rw [hv] at HV HS
          go_wp2_with fail
          refine (HV.out _).mono ?_
          rintro e w1 ⟨rfl, hb1⟩
          have H1 : Hid (Below w.heap.size w w1) := (HW.out.alloc HW.out.size _).trans (hb1.mono (by have := HW.out.size; simp; omega))
          clear hb1
          go_wp2_with fail
          go_roundg (gk - 1)
          case measure => omega
          case rel => exact ⟨H1.out, k + 1, by omega, by go_num, HS.out⟩
        | false =>
          rw [hv] at HV
          have HN := hide (HR.out.trans (HF.out hv))
          go_wp2_with fail
          refine (HV.out _).mono ?_
          rintro e w1 ⟨rfl, hb1⟩
          have H1 : Hid (Below w.heap.size w w1) := (HW.out.alloc HW.out.size _).trans (hb1.mono (by have := HW.out.size; simp; omega))
          clear hb1
          go_wp2_with fail
          go_ret
          exact ⟨ret_bool HN.out.symm, H1.out⟩
      · have hkl : k = f.length := by omega
        have HT : Hid (R = true) := by
          have := HA.out
          rw [hkl, List.take_length] at this
          unfold Hid; rw [HR.out]; unfold fmtB; simp [this, h1, h5]
        clear hd hbw
        go_wp2_with fail
        go_ret
        exact ⟨ret_bool HT.out.symm, HW.out⟩
  · have HF := hide (hR.trans (fmt_len hlen))
    clear hR hd
    by_cases h1 : f.length < 1
    · clear hlen
      go_enter Tryd.func19, Tryd.ntmps19
      go_wp2_with fail
      go_ret
      exact ⟨ret_bool HF.out.symm, Below.refl _ _⟩
    · have h5 : 5 < f.length := by omega
      clear hlen
      go_enter Tryd.func19, Tryd.ntmps19
      go_wp2_with fail
      go_ret
      exact ⟨ret_bool HF.out.symm, Below.refl _ _⟩
set_option maxHeartbeats 4000000 in
theorem svalidFormat_any (v : Value) (f : List RCol) (w : World) (h : Recs cEnc 4 w v f) (ho : ∀ c ∈ f, okC c) :
    Calls Tryd.prog 59 #[v] w fun e w' => e = .returned (.bool (fmtB f)) ∧ Below w.heap.size w w' := by
  obtain ⟨a, cap, rfl, hl, hcap, -, hd⟩ := h
  obtain ⟨R, hR⟩ : ∃ R, R = fmtB f := ⟨_, rfl⟩
  rw [← hR]
  have HR := hide hR
  have HO := hide ho
  clear hR ho
  go_enter Tryd.func59, Tryd.ntmps59
  go_wp2_with fail
  go_loopg [3] f.length (fun gk s3 wr => Below w.heap.size w wr ∧ ∃ k : Nat, k + gk = f.length ∧ s3 = .int .i64 (k : Int) ∧ (f.take k).all colB = true)
  case atStart => exact ⟨Below.refl _ _, 0, by omega, rfl, rfl⟩
  case round =>
    obtain ⟨hbw, k, hk, rfl, hall⟩ := hrel
    have HA := hide hall
    have HW := hide hbw
    clear hall
    by_cases hlt : k < f.length
    · obtain ⟨b, off, rfl, hbb, hcell⟩ := hd.resolve_left (by rintro rfl; simp at hlt)
      have e := at4 (fun j u hu => (hbw.cell (p := ⟨b, _, none⟩) hbb).trans (hcell k hlt j u hu))
      have HS : Hid ((f.take (k + 1)).all colB = colB f[k]) := by unfold Hid; rw [take_all_snoc hlt, HA.out]; rfl
      have HF := hide (fun hb => fmt_bad hlt hb)
      have HV := hide (fun w => svalidColumn_any f[k] w (HO.out _ (List.getElem_mem hlt)))
      obtain ⟨c, hc⟩ : ∃ c, f[k] = c := ⟨_, rfl⟩
      rw [hc] at e HS HF HV
      obtain ⟨e0, e1, e2, e3⟩ := e
      clear hd hcell hbw hc
      cases hv : colB c with
      | true =>
        rw [hv] at HV HS
        go_wp2_with fail
        refine (HV.out _).mono ?_
        rintro e w1 ⟨rfl, hb1⟩
        have H1 : Hid (Below w.heap.size w w1) := HW.out.trans (hb1.mono HW.out.size)
        clear hb1
        go_wp2_with fail
        go_roundg (gk - 1)
        case measure => omega
        case rel => exact ⟨H1.out, k + 1, by omega, by go_num, HS.out⟩
      | false =>
        rw [hv] at HV
        have HN := hide (HR.out.trans (HF.out hv))
        go_wp2_with fail
        refine (HV.out _).mono ?_
        rintro e w1 ⟨rfl, hb1⟩
        have H1 : Hid (Below w.heap.size w w1) := HW.out.trans (hb1.mono HW.out.size)
        clear hb1
        go_wp2_with fail
        go_ret
        exact ⟨ret_bool HN.out.symm, H1.out⟩
    · have hkl : k = f.length := by omega
      have HT : Hid (R = decide ((1 : Int) ≤ (f.length : Int) ∧ (f.length : Int) ≤ 5)) := by
        have := HA.out
        rw [hkl, List.take_length] at this
        unfold Hid; rw [HR.out]; unfold fmtB; rw [this, Bool.and_true]; exact decide_eq_decide.2 (by omega)
      clear hd hbw
      go_wp2_with fail
      refine (inRange_any _ _ _ _).mono ?_
      rintro e _ ⟨rfl, rfl⟩
      go_wp2_with fail
      go_ret
      exact ⟨ret_bool (by rw [HT.out, Bool.decide_and]), HW.out⟩
end Go.Proofs.YtdijcdadcbhipaaDoor
