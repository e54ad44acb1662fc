/-
  eqEntry, eqEntryS at equal catalogs; the walk of FnExactValidCatalog.
-/
import Derived.Test.YteikeljklfblmaaCat4
import Derived.Test.YteikeljklfblmaaCatArg
set_option linter.all false
namespace Go.Proofs.Yteikeljklfblmaa
open Go.RowKit
set_option maxHeartbeats 2000000 in
theorem eqEntry_same (e : Ent) (w : World) :
    Calls Try.prog 45 #[.agg #[.string e.n, .string e.t, .int .i64 e.s], .agg #[.string e.n, .string e.t, .int .i64 e.s]] w fun x w' => x = .returned (.bool true) ∧ Below w.heap.size w w' := by
  go_enter Try.func45, Try.ntmps45
  go_wp2_with fail
  go_ret
  exact ⟨rfl, ((Below.refl _ _).alloc (Nat.le_refl _) _).alloc (by simp) _⟩
theorem bw_cell {w : World} {p : Addr} {v : Value} (hp : p.block < w.heap.size) (h : w.cell? p = some v) (z : BW w) : z.v.cell? p = some v := (z.h.cell hp).trans h
set_option maxHeartbeats 4000000 in
theorem eqEntryS_same (v v' : Value) (l : List Ent) (w : World) (h : Ents w v l) (h' : Ents w v' l) :
    Calls Try.prog 19 #[v, v'] w fun x w' => x = .returned (.bool true) ∧ Below w.heap.size w w' := by
  obtain ⟨a, cap, rfl, hl, hcap, hd⟩ := h
  obtain ⟨a', cap', rfl, hl', hcap', hd'⟩ := h'
  go_enter Try.func19, Try.ntmps19
  go_wp2_with fail
  go_loopg [5] l.length (fun gk s5 wr => Below w.heap.size w wr ∧ ∃ k : Nat, k + gk = l.length ∧ s5 = .int .i64 (k : Int))
  case atStart => exact ⟨Below.refl _ _, 0, by omega, rfl⟩
  case round =>
    obtain ⟨hbw, k, hk, rfl⟩ := hrel
    have HW := hide hbw
    by_cases hlt : k < l.length
    · obtain ⟨b, off, rfl, hbb, hcell⟩ := hd.resolve_left (by rintro rfl; simp at hlt)
      obtain ⟨b', off', rfl, hbb', hcell'⟩ := hd'.resolve_left (by rintro rfl; simp at hlt)
      have E := (hcell k hlt).keep hbw
      have E' := (hcell' k hlt).keep hbw
      have lb := Nat.lt_of_lt_of_le hbb hbw.size
      have lb' := Nat.lt_of_lt_of_le hbb' hbw.size
      have e0 := fun z : BW wr => bw_cell (p := ⟨b, off + k * 3, none⟩) lb E.1 z
      have e1 := fun z : BW wr => bw_cell (p := ⟨b, off + k * 3 + 1, none⟩) lb E.2.1 z
      have e2 := fun z : BW wr => bw_cell (p := ⟨b, off + k * 3 + 2, none⟩) lb E.2.2.1 z
      have f0 := fun z : BW wr => bw_cell (p := ⟨b', off' + k * 3, none⟩) lb' E'.1 z
      have f1 := fun z : BW wr => bw_cell (p := ⟨b', off' + k * 3 + 1, none⟩) lb' E'.2.1 z
      have f2 := fun z : BW wr => bw_cell (p := ⟨b', off' + k * 3 + 2, none⟩) lb' E'.2.2.1 z
      clear hcell hd hcell' hd' hbw E E' lb lb' hbb hbb'
      generalize l[k] = e at *
      go_wp2_with fail
      refine wp_region_bw (by kernel_rfl) (by kernel_rfl) ?_
      repeat (go_big_quiet_step (first | (go_at_call 45; with_reducible exact bw_of (eqEntry_same e _))))
      refine wpQuiet_nil ?_
      rintro _ ⟨z, rfl⟩
      have H1 : Hid (Below w.heap.size w z.v) := HW.out.trans (z.h.mono HW.out.size)
      go_wp2_with fail
      go_roundg (gk - 1)
      case measure => omega
      case rel => exact ⟨H1.out, k + 1, by omega, by go_num⟩
    · clear hd hd' hbw
      go_wp2_with fail
      go_ret
      exact ⟨rfl, HW.out⟩
set_option maxHeartbeats 2000000 in
set_option maxRecDepth 100000 in
theorem exactValidCatalog_walk (v : Value) (l : List Ent) (w : World) (h : Ents w v l) :
    Calls Try.prog 4 #[v] w fun e w' => e = .returned (.bool true) ∧ Below w.heap.size w w' := by
  have E0 := hide h
  clear h
  go_enter Try.func4, Try.ntmps4
  go_wp2_with fail
  refine (szEntryS_any v l 1048576 w E0.out (by omega) (by omega)).mono ?_
  rintro e w1 ⟨r, rfl, hr0, hr1, hr2, hb1⟩
  have E1 := hide (E0.out.keep hb1)
  have H1 := hide hb1
  clear hb1
  by_cases hr : r < 0
  · go_wp2_with fail
    go_ret
    exact ⟨rfl, H1.out⟩
  · have hn : l.length ≤ 1048576 := by omega
    clear hr2
    go_wp2_with fail
    refine (toEntryS_any v l _ E1.out hn).mono ?_
    rintro e w2 ⟨v2, rfl, hv2, hb2, -⟩
    have V2 := hide hv2
    have E2 := hide (E1.out.keep hb2)
    have H2 : Hid (Below w.heap.size w w2) := H1.out.trans (hb2.mono H1.out.size)
    clear hb2 hv2
    go_wp2_with fail
    refine (sValidCatalog_any v2 l _ V2.out).mono ?_
    rintro e w3 ⟨rfl, hb3⟩
    have E3 := hide (E2.out.keep hb3)
    have H3 : Hid (Below w.heap.size w w3) := H2.out.trans (hb3.mono H2.out.size)
    clear hb3
    go_wp2_with fail
    refine (toEntryS_any v l _ E3.out hn).mono ?_
    rintro e w4 ⟨v4, rfl, hv4, hb4, -⟩
    have V4 := hide hv4
    have E4 := hide (E3.out.keep hb4)
    have H4 : Hid (Below w.heap.size w w4) := H3.out.trans (hb4.mono H3.out.size)
    clear hb4 hv4
    go_wp2_with fail
    refine (ivalidCatalog_any v4 l _ V4.out).mono ?_
    rintro e w5 ⟨rfl, hb5⟩
    have V5 := hide (V4.out.keep hb5)
    have E5 := hide (E4.out.keep hb5)
    have H5 : Hid (Below w.heap.size w w5) := H4.out.trans (hb5.mono H4.out.size)
    clear hb5
    go_wp2_with fail
    refine (toEntryS_any v l _ E5.out hn).mono ?_
    rintro e w6 ⟨v6, rfl, hv6, hb6, -⟩
    have V6 := hide hv6
    have U6 := hide (V5.out.keep hb6)
    have H6 : Hid (Below w.heap.size w w6) := H5.out.trans (hb6.mono H5.out.size)
    clear hb6 hv6
    go_wp2_with fail
    refine (eqEntryS_same v4 v6 l _ U6.out V6.out).mono ?_
    rintro e w7 ⟨rfl, hb7⟩
    have H7 : Hid (Below w.heap.size w w7) := H6.out.trans (hb7.mono H6.out.size)
    clear hb7
    go_wp2_with fail
    go_ret
    exact ⟨rfl, H7.out⟩
end Go.Proofs.Yteikeljklfblmaa
