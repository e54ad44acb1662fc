/-
  Which rows fit a format: the program's and the specification's test.
-/
import Derived.Test.YtdijcdadcbhipaaDoorFF
set_option linter.all false
namespace Go.Proofs.YtdijcdadcbhipaaDoor
open Go.RowKit
def rowB (r : List RVal) : Bool := r.all valB && decide (r.length ≤ 5)
set_option maxHeartbeats 4000000 in
theorem svalidRow_any (v : Value) (r : List RVal) (w : World) (h : Recs vEnc 3 w v r) (ho : ∀ c ∈ r, okV c) :
    Calls Tryd.prog 99 #[v] w fun e w' => e = .returned (.bool (rowB r)) ∧ Below w.heap.size w w' := by
  obtain ⟨a, cap, rfl, hl, hcap, -, hd⟩ := h
  obtain ⟨R, hR⟩ : ∃ R, R = rowB r := ⟨_, rfl⟩
  rw [← hR]
  have HR := hide hR
  have HO := hide ho
  clear hR ho
  go_enter Tryd.func99, Tryd.ntmps99
  go_wp2_with fail
  go_loopg [3] r.length (fun gk s3 wr => Below w.heap.size w wr ∧ ∃ k : Nat, k + gk = r.length ∧ s3 = .int .i64 (k : Int) ∧ (r.take k).all valB = true)
  case atStart => exact ⟨Below.refl _ _, 0, by omega, rfl, rfl⟩
  case round =>
    obtain ⟨hbw, k, hk, rfl, hall⟩ := hrel
    have HA := hide hall
    have HW := hide hbw
    clear hall
    by_cases hlt : k < r.length
    · obtain ⟨b, off, rfl, hbb, hcell⟩ := hd.resolve_left (by rintro rfl; simp at hlt)
      have e := at3 (fun j u hu => (hbw.cell (p := ⟨b, _, none⟩) hbb).trans (hcell k hlt j u hu))
      have HS : Hid ((r.take (k + 1)).all valB = valB r[k]) := by unfold Hid; rw [take_all_snoc hlt, HA.out]; rfl
      have HF : Hid (valB r[k] = false → rowB r = false) := fun hb => by unfold rowB; rw [all_at_false hlt hb]; rfl
      have HV := hide (fun w => svalidValue_any r[k] w (HO.out _ (List.getElem_mem hlt)))
      obtain ⟨c, hc⟩ : ∃ c, r[k] = c := ⟨_, rfl⟩
      rw [hc] at e HS HF HV
      obtain ⟨e0, e1, e2⟩ := e
      clear hd hcell hbw hc
      cases hv : valB c with
      | true =>
        rw [hv] at HV HS
        go_wp2_with fail
        refine (HV.out _).mono ?_
        rintro e w1 ⟨rfl, hb1⟩
        have H1 : Hid (Below w.heap.size w w1) := HW.out.trans (hb1.mono HW.out.size)
        clear hb1
        go_wp2_with fail
        go_roundg (gk - 1)
        case measure => omega
        case rel => exact ⟨H1.out, k + 1, by omega, by go_num, HS.out⟩
      | false =>
        rw [hv] at HV
        have HN := hide (HR.out.trans (HF.out hv))
        go_wp2_with fail
        refine (HV.out _).mono ?_
        rintro e w1 ⟨rfl, hb1⟩
        have H1 : Hid (Below w.heap.size w w1) := HW.out.trans (hb1.mono HW.out.size)
        clear hb1
        go_wp2_with fail
        go_ret
        exact ⟨ret_bool HN.out.symm, H1.out⟩
    · have hkl : k = r.length := by omega
      have HT : Hid (R = decide ((r.length : Int) ≤ 5)) := by
        have := HA.out
        rw [hkl, List.take_length] at this
        unfold Hid; rw [HR.out]; unfold rowB; rw [this, Bool.true_and]; exact decide_eq_decide.2 (by omega)
      clear hd hbw
      go_wp2_with fail
      go_ret
      exact ⟨ret_bool HT.out.symm, HW.out⟩
/-- a value of a column's kind, or none -/
def fitK (p : RVal × RCol) : Bool := decide (p.1.k = 0) || decide (p.1.k = p.2.k)
def sfitB (f : List RCol) (r : List RVal) : Bool := decide (r.length = f.length) && rowB r && (r.zip f).all fitK
set_option maxHeartbeats 8000000 in
set_option maxRecDepth 100000 in
theorem sfits_any (v u : Value) (f : List RCol) (r : List RVal) (w : World) (h : Recs cEnc 4 w v f) (h' : Recs vEnc 3 w u r) (ho : ∀ c ∈ r, okV c) :
    Calls Tryd.prog 72 #[v, u] w fun e w' => e = .returned (.bool (sfitB f r)) ∧ Below w.heap.size w w' := by
  have HV := hide (svalidRow_any u r w h' ho)
  obtain ⟨a, cap, rfl, hl, hcap, -, hd⟩ := h
  obtain ⟨a', cap', rfl, hl', hcap', -, hd'⟩ := h'
  obtain ⟨R, hR⟩ : ∃ R, R = sfitB f r := ⟨_, rfl⟩
  rw [← hR]
  by_cases hlen : r.length = f.length
  · have hq1 : ((r.length : Int) == (f.length : Int)) = true := by simp [hlen]
    have hq2 : ((r.length : Int) != (f.length : Int)) = false := by simp [hlen]
    have HL := hide hlen
    cases hv : rowB r with
    | false =>
      have HR : Hid (R = false) := by unfold Hid; rw [hR]; simp [sfitB, hv]
      rw [hv] at HV
      clear hR hv hd hd' hlen
      go_enter Tryd.func72, Tryd.ntmps72
      go_wp2_with fail
      with_reducible refine HV.out.mono ?_
      rintro e w1 ⟨rfl, hb1⟩
      have H1 := hide hb1
      clear hb1
      go_wp2_with fail
      go_ret
      exact ⟨ret_bool HR.out.symm, H1.out⟩
    | true =>
      have HR : Hid (R = (r.zip f).all fitK) := by unfold Hid; rw [hR]; simp [sfitB, hv, hlen]
      rw [hv] at HV
      have HZ : Hid ((r.zip f).length = r.length) := by unfold Hid; rw [List.length_zip]; omega
      clear hR hv hlen
      go_enter Tryd.func72, Tryd.ntmps72
      go_wp2_with fail
      with_reducible refine HV.out.mono ?_
      rintro e w1 ⟨rfl, hb1⟩
      have H1 := hide hb1
      clear hb1 HV
      go_wp2_with fail
      go_loopg [5] r.length (fun gk s5 wr => Below w.heap.size w wr ∧ ∃ k : Nat, k + gk = r.length ∧ s5 = .int .i64 (k : Int) ∧ ((r.zip f).take k).all fitK = true)
      case atStart => exact ⟨H1.out, 0, by omega, rfl, rfl⟩
      case round =>
        obtain ⟨hbw, k, hk, rfl, hall⟩ := hrel
        have HA := hide hall
        have HW := hide hbw
        clear hall
        by_cases hlt : k < r.length
        · have hlt' : k < f.length := by have := HL.out; omega
          obtain ⟨b, off, rfl, hbb, hcell⟩ := hd.resolve_left (by rintro rfl; simp at hlt')
          obtain ⟨b', off', rfl, hbb', hcell'⟩ := hd'.resolve_left (by rintro rfl; simp at hlt)
          have e := at4 (fun j u hu => (hbw.cell (p := ⟨b, _, none⟩) hbb).trans (hcell k hlt' j u hu))
          have e' := at3 (fun j u hu => (hbw.cell (p := ⟨b', _, none⟩) hbb').trans (hcell' k hlt j u hu))
          have hzk : (r.zip f)[k]'(by rw [HZ.out]; omega) = (r[k], f[k]) := List.getElem_zip
          have HS : Hid (((r.zip f).take (k + 1)).all fitK = fitK (r[k], f[k])) := by unfold Hid; rw [take_all_snoc (by rw [HZ.out]; omega), HA.out, hzk]; rfl
          have HF : Hid (fitK (r[k], f[k]) = false → R = false) := fun hb => by rw [HR.out]; exact all_at_false (k := k) (by rw [HZ.out]; omega) (by rw [hzk]; exact hb)
          obtain ⟨c, hc⟩ : ∃ c, f[k] = c := ⟨_, rfl⟩
          obtain ⟨x, hx⟩ : ∃ x, r[k] = x := ⟨_, rfl⟩
          rw [hc] at e HS HF
          rw [hx] at e' HS HF
          obtain ⟨e0, -⟩ := e
          obtain ⟨g0, -⟩ := e'
          clear hd hcell hd' hcell' hbw hc hx hzk
          by_cases q0 : x.k = 0
          · have d0 : (x.k == 0) = true := by simp [q0]
            have d1 : (x.k != 0) = false := by simp [q0]
            have HS1 : Hid (((r.zip f).take (k + 1)).all fitK = true) := HS.out.trans (by simp [fitK, q0])
            rw [q0] at g0
            clear q0
            go_wp2_with fail
            go_quiet (fail)
            go_wp2_with fail
            go_roundg (gk - 1)
            case measure => omega
            case rel => exact ⟨below_drewN HW.out _, k + 1, by omega, by go_num, HS1.out⟩
          · obtain ⟨d0, d1⟩ := i64_neq q0
            by_cases q1 : x.k = c.k
            · have d2 : (x.k == c.k) = true := by simp [q1]
              have d3 : (x.k != c.k) = false := by simp [q1]
              have HS1 : Hid (((r.zip f).take (k + 1)).all fitK = true) := HS.out.trans (by simp [fitK, q1])
              clear q0 q1
              go_wp2_with fail
              go_quiet (fail)
              go_wp2_with fail
              go_roundg (gk - 1)
              case measure => omega
              case rel => exact ⟨below_drewN HW.out _, k + 1, by omega, by go_num, HS1.out⟩
            · obtain ⟨d2, d3⟩ := i64_neq q1
              have HN := hide (HF.out (by simp [fitK, q0, q1]))
              clear q0 q1
              go_wp2_with fail
              go_quiet (fail)
              go_wp2_with fail
              go_ret
              exact ⟨ret_bool HN.out.symm, below_drewN HW.out _⟩
        · have hkl : k = r.length := by omega
          have HT : Hid (R = true) := by
            have := HA.out
            rw [hkl, ← HZ.out, List.take_length] at this
            unfold Hid; rw [HR.out]; exact this
          clear hd hd' hbw
          go_wp2_with fail
          go_ret
          exact ⟨ret_bool HT.out.symm, HW.out⟩
  · have HR : Hid (R = false) := by unfold Hid; rw [hR]; simp [sfitB, hlen]
    have hne : ((r.length : Int) == (f.length : Int)) = false := by simp; omega
    have hne2 : ((r.length : Int) != (f.length : Int)) = true := by simp; omega
    clear hR hd hd'
    go_enter Tryd.func72, Tryd.ntmps72
    go_wp2_with fail
    go_ret
    exact ⟨ret_bool HR.out.symm, Below.refl _ _⟩
def fitP (p : RVal × RCol) : Bool := valB p.1 && fitK p
def fitB (f : List RCol) (r : List RVal) : Bool := fmtB f && decide (r.length = f.length) && (r.zip f).all fitP
theorem fitB_eq (f : List RCol) (r : List RVal) : fitB f r = (fmtB f && sfitB f r) := by
  unfold fitB sfitB rowB
  by_cases hl : r.length = f.length
  · have hz : (r.zip f).all fitP = (r.all valB && (r.zip f).all fitK) := by
      have h1 : r.all valB = (r.zip f).all (fun p => valB p.1) := by
        conv => lhs; rw [← List.map_fst_zip (l₁ := r) (l₂ := f) (by omega)]
        rw [List.all_map]; rfl
      rw [h1]
      generalize r.zip f = z
      induction z with
      | nil => rfl
      | cons p z ih => simp only [List.all_cons, fitP, ih]; cases valB p.1 <;> cases fitK p <;> simp
    rw [hz]
    by_cases h5 : r.length ≤ 5
    · simp [hl, show f.length ≤ 5 by omega]
    · have : fmtB f = false := fmt_len (by omega)
      simp [this]
  · simp [hl]
set_option maxHeartbeats 8000000 in
set_option maxRecDepth 100000 in
theorem iRowFits_any (v u : Value) (f : List RCol) (r : List RVal) (w : World) (h : Recs cEnc 4 w v f) (h' : Recs vEnc 3 w u r) :
    Calls Tryd.prog 35 #[v, u] w fun e w' => e = .returned (.bool (fitB f r)) ∧ Below w.heap.size w w' := by
  have HV := hide (ivalidFormat_any v f w h)
  obtain ⟨a, cap, rfl, hl, hcap, -, hd⟩ := h
  obtain ⟨a', cap', rfl, hl', hcap', -, hd'⟩ := h'
  obtain ⟨R, hR⟩ : ∃ R, R = fitB f r := ⟨_, rfl⟩
  rw [← hR]
  cases hv : fmtB f with
  | false =>
    have HR : Hid (R = false) := by unfold Hid; rw [hR]; simp [fitB, hv]
    rw [hv] at HV
    clear hR hv hd hd'
    go_enter Tryd.func35, Tryd.ntmps35
    go_wp2_with fail
    with_reducible refine HV.out.mono ?_
    rintro e w1 ⟨rfl, hb1⟩
    have H1 := hide hb1
    clear hb1
    go_wp2_with fail
    go_ret
    exact ⟨ret_bool HR.out.symm, H1.out⟩
  | true =>
    rw [hv] at HV
    by_cases hlen : r.length = f.length
    · have hq1 : ((r.length : Int) == (f.length : Int)) = true := by simp [hlen]
      have hq2 : ((r.length : Int) != (f.length : Int)) = false := by simp [hlen]
      have HL := hide hlen
      have HR : Hid (R = (r.zip f).all fitP) := by unfold Hid; rw [hR]; simp [fitB, hv, hlen]
      have HZ : Hid ((r.zip f).length = r.length) := by unfold Hid; rw [List.length_zip]; omega
      clear hR hv hlen
      go_enter Tryd.func35, Tryd.ntmps35
      go_wp2_with fail
      with_reducible refine HV.out.mono ?_
      rintro e w1 ⟨rfl, hb1⟩
      have H1 := hide hb1
      clear hb1 HV
      go_wp2_with fail
      go_loopg [19] r.length (fun gk s19 wr => Below w.heap.size w wr ∧ ∃ k : Nat, k + gk = r.length ∧ s19 = .int .i64 (k : Int) ∧ ((r.zip f).take k).all fitP = true)
      case atStart => exact ⟨H1.out, 0, by omega, rfl, rfl⟩
      case round =>
        obtain ⟨hbw, k, hk, rfl, hall⟩ := hrel
        have HA := hide hall
        have HW := hide hbw
        clear hall
        by_cases hlt : k < r.length
        · have hlt' : k < f.length := by have := HL.out; omega
          obtain ⟨b, off, rfl, hbb, hcell⟩ := hd.resolve_left (by rintro rfl; simp at hlt')
          obtain ⟨b', off', rfl, hbb', hcell'⟩ := hd'.resolve_left (by rintro rfl; simp at hlt)
          have e := at4 (fun j u hu => (hbw.cell (p := ⟨b, _, none⟩) hbb).trans (hcell k hlt' j u hu))
          have e' := at3 (fun j u hu => (hbw.cell (p := ⟨b', _, none⟩) hbb').trans (hcell' k hlt j u hu))
          have hzk : (r.zip f)[k]'(by rw [HZ.out]; omega) = (r[k], f[k]) := List.getElem_zip
          have HS : Hid (((r.zip f).take (k + 1)).all fitP = fitP (r[k], f[k])) := by unfold Hid; rw [take_all_snoc (by rw [HZ.out]; omega), HA.out, hzk]; rfl
          have HF : Hid (fitP (r[k], f[k]) = false → R = false) := fun hb => by rw [HR.out]; exact all_at_false (k := k) (by rw [HZ.out]; omega) (by rw [hzk]; exact hb)
          obtain ⟨c, hc⟩ : ∃ c, f[k] = c := ⟨_, rfl⟩
          obtain ⟨x, hx⟩ : ∃ x, r[k] = x := ⟨_, rfl⟩
          rw [hc] at e HS HF
          rw [hx] at e' HS HF
          obtain ⟨e0, -⟩ := e
          obtain ⟨g0, g1, g2⟩ := e'
          clear hd hcell hd' hcell' hbw hc hx hzk
          go_upto_region 6 with fail
          have e0' := (Below.keep_cell e0 (.cells #[.int .i64 x.k, .int .i64 x.n, .string x.s] 25))
          have HVV := hide (ivalidValue_any x)
          cases hvv : valB x with
          | false =>
            have HN := hide (HF.out (by simp [fitP, hvv]))
            rw [hvv] at HVV
            clear hvv
            have hbx := blk_alloc wr (.cells #[.int .i64 x.k, .int .i64 x.n, .string x.s] 25)
            have x0 := fun z : BW (wr.alloc (.cells #[.int .i64 x.k, .int .i64 x.n, .string x.s] 25)) => (cells3 (bw_blk hbx z)).1.1
            have x1 := fun z : BW (wr.alloc (.cells #[.int .i64 x.k, .int .i64 x.n, .string x.s] 25)) => (cells3 (bw_blk hbx z)).1.2.1
            have x2 := fun z : BW (wr.alloc (.cells #[.int .i64 x.k, .int .i64 x.n, .string x.s] 25)) => (cells3 (bw_blk hbx z)).1.2.2
            have c0 := fun z : BW (wr.alloc (.cells #[.int .i64 x.k, .int .i64 x.n, .string x.s] 25)) => bw_cell (p := ⟨b, off + k * 4, none⟩) (lt_cell e0') e0' z
            clear hbx
            refine wp_region_bw (by kernel_rfl) (by kernel_rfl) ?_
            repeat (go_big_quiet_step (first | (go_at_call 74; with_reducible exact bw_of (HVV.out _))))
            refine wpQuiet_nil ?_
            rintro _ ⟨z, rfl⟩
            have H2 : Hid (Below w.heap.size w z.v) := (HW.out.alloc HW.out.size _).trans (z.h.mono (by have := HW.out.size; simp; omega))
            clear x0 x1 x2 c0
            go_wp2_with fail
            go_ret
            exact ⟨ret_bool HN.out.symm, H2.out⟩
          | true =>
            rw [hvv] at HVV
            by_cases q0 : x.k = 0
            · have d0 : (x.k == 0) = true := by simp [q0]
              have d1 : (x.k != 0) = false := by simp [q0]
              have HS1 : Hid (((r.zip f).take (k + 1)).all fitP = true) := HS.out.trans (by simp [fitP, fitK, q0, hvv])
              clear q0 hvv
              have hbx := blk_alloc wr (.cells #[.int .i64 x.k, .int .i64 x.n, .string x.s] 25)
              have x0 := fun z : BW (wr.alloc (.cells #[.int .i64 x.k, .int .i64 x.n, .string x.s] 25)) => (cells3 (bw_blk hbx z)).1.1
              have x1 := fun z : BW (wr.alloc (.cells #[.int .i64 x.k, .int .i64 x.n, .string x.s] 25)) => (cells3 (bw_blk hbx z)).1.2.1
              have x2 := fun z : BW (wr.alloc (.cells #[.int .i64 x.k, .int .i64 x.n, .string x.s] 25)) => (cells3 (bw_blk hbx z)).1.2.2
              have c0 := fun z : BW (wr.alloc (.cells #[.int .i64 x.k, .int .i64 x.n, .string x.s] 25)) => bw_cell (p := ⟨b, off + k * 4, none⟩) (lt_cell e0') e0' z
              clear hbx
              refine wp_region_bw (by kernel_rfl) (by kernel_rfl) ?_
              repeat (go_big_quiet_step (first | (go_at_call 74; with_reducible exact bw_of (HVV.out _))))
              refine wpQuiet_nil ?_
              rintro _ ⟨z, rfl⟩
              have H2 : Hid (Below w.heap.size w z.v) := (HW.out.alloc HW.out.size _).trans (z.h.mono (by have := HW.out.size; simp; omega))
              clear x0 x1 x2 c0
              go_wp2_with fail
              go_roundg (gk - 1)
              case measure => omega
              case rel => exact ⟨H2.out, k + 1, by omega, by go_num, HS1.out⟩
            · obtain ⟨d0, d1⟩ := i64_neq q0
              by_cases q1 : x.k = c.k
              · have d2 : (x.k == c.k) = true := by simp [q1]
                have d3 : (x.k != c.k) = false := by simp [q1]
                have HS1 : Hid (((r.zip f).take (k + 1)).all fitP = true) := HS.out.trans (by simp [fitP, fitK, q1, hvv])
                clear q0 q1 hvv
                have hbx := blk_alloc wr (.cells #[.int .i64 x.k, .int .i64 x.n, .string x.s] 25)
                have x0 := fun z : BW (wr.alloc (.cells #[.int .i64 x.k, .int .i64 x.n, .string x.s] 25)) => (cells3 (bw_blk hbx z)).1.1
                have x1 := fun z : BW (wr.alloc (.cells #[.int .i64 x.k, .int .i64 x.n, .string x.s] 25)) => (cells3 (bw_blk hbx z)).1.2.1
                have x2 := fun z : BW (wr.alloc (.cells #[.int .i64 x.k, .int .i64 x.n, .string x.s] 25)) => (cells3 (bw_blk hbx z)).1.2.2
                have c0 := fun z : BW (wr.alloc (.cells #[.int .i64 x.k, .int .i64 x.n, .string x.s] 25)) => bw_cell (p := ⟨b, off + k * 4, none⟩) (lt_cell e0') e0' z
                clear hbx
                refine wp_region_bw (by kernel_rfl) (by kernel_rfl) ?_
                repeat (go_big_quiet_step (first | (go_at_call 74; with_reducible exact bw_of (HVV.out _))))
                refine wpQuiet_nil ?_
                rintro _ ⟨z, rfl⟩
                have H2 : Hid (Below w.heap.size w z.v) := (HW.out.alloc HW.out.size _).trans (z.h.mono (by have := HW.out.size; simp; omega))
                clear x0 x1 x2 c0
                go_wp2_with fail
                go_roundg (gk - 1)
                case measure => omega
                case rel => exact ⟨H2.out, k + 1, by omega, by go_num, HS1.out⟩
              · obtain ⟨d2, d3⟩ := i64_neq q1
                have HN := hide (HF.out (by simp [fitP, fitK, q0, q1]))
                clear q0 q1 hvv
                have hbx := blk_alloc wr (.cells #[.int .i64 x.k, .int .i64 x.n, .string x.s] 25)
                have x0 := fun z : BW (wr.alloc (.cells #[.int .i64 x.k, .int .i64 x.n, .string x.s] 25)) => (cells3 (bw_blk hbx z)).1.1
                have x1 := fun z : BW (wr.alloc (.cells #[.int .i64 x.k, .int .i64 x.n, .string x.s] 25)) => (cells3 (bw_blk hbx z)).1.2.1
                have x2 := fun z : BW (wr.alloc (.cells #[.int .i64 x.k, .int .i64 x.n, .string x.s] 25)) => (cells3 (bw_blk hbx z)).1.2.2
                have c0 := fun z : BW (wr.alloc (.cells #[.int .i64 x.k, .int .i64 x.n, .string x.s] 25)) => bw_cell (p := ⟨b, off + k * 4, none⟩) (lt_cell e0') e0' z
                clear hbx
                refine wp_region_bw (by kernel_rfl) (by kernel_rfl) ?_
                repeat (go_big_quiet_step (first | (go_at_call 74; with_reducible exact bw_of (HVV.out _))))
                refine wpQuiet_nil ?_
                rintro _ ⟨z, rfl⟩
                have H2 : Hid (Below w.heap.size w z.v) := (HW.out.alloc HW.out.size _).trans (z.h.mono (by have := HW.out.size; simp; omega))
                clear x0 x1 x2 c0
                go_wp2_with fail
                go_ret
                exact ⟨ret_bool HN.out.symm, H2.out⟩
        · have hkl : k = r.length := by omega
          have HT : Hid (R = true) := by
            have := HA.out
            rw [hkl, ← HZ.out, List.take_length] at this
            unfold Hid; rw [HR.out]; exact this
          clear hd hd' hbw
          go_wp2_with fail
          go_ret
          exact ⟨ret_bool HT.out.symm, HW.out⟩
    · have HR : Hid (R = false) := by unfold Hid; rw [hR]; simp [fitB, hlen]
      have hne : ((r.length : Int) == (f.length : Int)) = false := by simp; omega
      have hne2 : ((r.length : Int) != (f.length : Int)) = true := by simp; omega
      clear hR hd hd' hlen
      go_enter Tryd.func35, Tryd.ntmps35
      go_wp2_with fail
      with_reducible refine HV.out.mono ?_
      rintro e w1 ⟨rfl, hb1⟩
      have H1 := hide hb1
      clear hb1 HV
      go_wp2_with fail
      go_ret
      exact ⟨ret_bool HR.out.symm, H1.out⟩
end Go.Proofs.YtdijcdadcbhipaaDoor
