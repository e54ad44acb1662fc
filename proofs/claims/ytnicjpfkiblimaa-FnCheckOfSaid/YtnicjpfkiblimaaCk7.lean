/-
  RedoCells of the program; equalInts and equalCheck of the laws; the plain law of CheckOf.
-/
import Derived.Test.YtnicjpfkiblimaaCk6
import Derived.Test.YtnicjpfkiblimaaChk8
import Derived.Test.YtnicjpfkiblimaaChk10
import Derived.Lib.SliceRun
set_option linter.all false
namespace Go.Proofs.Ytnicjpfkiblimaa
open Go.RowKit
set_option maxHeartbeats 2000000 in
theorem cloneCNil_any (n c : Nat) (w : World) :
    Calls Try.prog 30 #[.slice none n c] w fun e w' => e = .returned (.slice none 0 0) ∧ w' = w := by
  have q22 : ∀ (w : World) (a : Option Addr) (n c n' c' : Nat), (binOp .eql 23 (.slice a n c) (.slice none n' c')).run Try.prog w = .ok (.bool a.isNone) w := fun w a n c n' c' => Lib.run_eql_slice_nil w _ _ a n c n' c' Try.underlying23
  go_enter Try.func30, Try.ntmps30
  go_wp2_with fail
  go_ret
  exact ⟨rfl, rfl⟩
/-- what a call that returns new cells hands back -/
def ClRet (w : World) (l : List RCell) (e : Ending) (w' : World) : Prop := ∃ v', e = .returned v' ∧ OwnCl w.heap.size w' v' l ∧ Below w.heap.size w w'
set_option maxHeartbeats 2000000 in
theorem cloneC_any (v : Value) (l : List RCell) (w : World) (h : Cells w v l) (hn : l.length ≤ 1048576) :
    Calls Try.prog 30 #[v] w (ClRet w l) := by
  obtain ⟨a, cap, rfl, hl, hcap, hd⟩ := h
  have hnews : ∃ ad, (a = none ∧ l = []) ∨ (a = some ad ∧ ∀ j u, (celCells l)[j]? = some u → w.cell? (ad.add j) = some u) := by
    rcases hd with rfl | ⟨b, off, rfl, -, hc⟩
    · cases a with
      | none => exact ⟨⟨0, 0, none⟩, .inl ⟨rfl, rfl⟩⟩
      | some x => exact ⟨x, .inr ⟨rfl, fun j u hu => by simp [celCells] at hu⟩⟩
    · exact ⟨⟨b, off, none⟩, .inr ⟨rfl, fun j u hu => by rw [num_add]; exact celCells_news hc j u hu⟩⟩
  obtain ⟨ad, ⟨rfl, rfl⟩ | ⟨rfl, hnews⟩⟩ := hnews
  · refine (cloneCNil_any _ _ w).mono ?_
    rintro e w' ⟨rfl, rfl⟩
    exact ⟨_, rfl, World.ownsRow_nil _ _ _ _, Below.refl _ _⟩
  · have HN := hide hnews
    clear hnews hd
    have q22 : ∀ (w : World) (a : Option Addr) (n c n' c' : Nat), (binOp .eql 23 (.slice a n c) (.slice none n' c')).run Try.prog w = .ok (.bool a.isNone) w := fun w a n c n' c' => Lib.run_eql_slice_nil w _ _ a n c n' c' Try.underlying23
    obtain ⟨i0, hi, hz0, hz1, hz2⟩ := info_parts infoAppCell
    go_enter Try.func30, Try.ntmps30
    go_wp2_with (at_builtin; refine wpList_append_own _ rfl _ _ 23 rfl w.heap.size 33 i0 _ 2 16 Try.underlying23 hi hz0 hz1 hz2 rfl (by decide) _ _ _ rfl (World.ownsRow_made w #[] 0 (Nat.le_refl _) (Nat.zero_le _) (by simp)) ad l.length cap (celCells l) rfl ?qc1 ?qc2 ?qc3 ?qc4 ?qc5 ?qc6 ?_)
    case qc1 => exact celCells_len l
    case qc2 =>
      intro j u hj
      exact Lib.cell?_alloc_some _ (HN.out j u hj)
    case qc3 => exact celCells_one l
    case qc4 => unfold maxLen; omega
    case qc5 => omega
    case qc6 => simp
    intro v' w1 hown hgrow hnil
    clear hnil
    have HO := hide hown
    have HB : Hid (Below w.heap.size w w1) := ((Below.refl _ w).alloc (Nat.le_refl _) _).grown hgrow (by simp) (by intro k hk; simp [Value.ownBlock] at hk; omega)
    clear hown hgrow
    go_wp2_with fail
    go_ret
    refine ⟨v', rfl, ?_, HB.out⟩
    first
    | exact HO.out
    | (have := HO.out; simp at this; exact this)
set_option maxHeartbeats 4000000 in
theorem equalInts_same (v v' : Value) (ns : List Int) (w : World) (h : Nums w v ns) (h' : Nums w v' ns) :
    Calls Try.prog 13 #[v, v'] w fun x w' => x = .returned (.bool true) ∧ Below w.heap.size w w' := by
  obtain ⟨a, cap, rfl, hl, hcap, hd⟩ := h
  obtain ⟨a', cap', rfl, hl', hcap', hd'⟩ := h'
  go_enter Try.func13, Try.ntmps13
  go_wp2_with fail
  go_loopg [5] ns.length (fun gk s5 wr => Below w.heap.size w wr ∧ ∃ k : Nat, k + gk = ns.length ∧ s5 = .int .i64 (k : Int))
  case atStart => exact ⟨Below.refl _ _, 0, by omega, rfl⟩
  case round =>
    obtain ⟨hbw, k, hk, rfl⟩ := hrel
    have HW := hide hbw
    by_cases hlt : k < ns.length
    · obtain ⟨b, off, rfl, hbb, hcell⟩ := hd.resolve_left (by rintro rfl; simp at hlt)
      obtain ⟨b', off', rfl, hbb', hcell'⟩ := hd'.resolve_left (by rintro rfl; simp at hlt)
      have e0 := (hbw.cell (p := ⟨b, off + k, none⟩) hbb).trans (hcell k hlt)
      have f0 := (hbw.cell (p := ⟨b', off' + k, none⟩) hbb').trans (hcell' k hlt)
      clear hcell hd hcell' hd' hbw
      generalize ns[k] = e at *
      go_wp2_with fail
      go_quiet (fail)
      go_wp2_with fail
      go_roundg (gk - 1)
      case measure => omega
      case rel => exact ⟨below_drewN HW.out _, k + 1, by omega, by go_num⟩
    · clear hd hd' hbw
      go_wp2_with fail
      go_ret
      exact ⟨rfl, HW.out⟩
theorem nums_slice {w : World} {v : Value} {ns : List Int} (h : Nums w v ns) : ∃ a n c, v = .slice a n c := by
  obtain ⟨a, c, rfl, -⟩ := h
  exact ⟨_, _, _, rfl⟩
theorem cellsA3 {w : World} {b : Nat} {t : TypeId} {a0 a1 a2 : Value} (h : w.heap[b]? = some (.cells #[a0, a1, a2] t (0, 0))) :
    w.cell? ⟨b, 0, none⟩ = some a0 ∧ w.cell? ⟨b, 1, none⟩ = some a1 ∧ w.cell? ⟨b, 2, none⟩ = some a2 := by
  simp [World.cell?, h]
set_option maxHeartbeats 4000000 in
theorem equalCheck_same (d f a d' f' a' : Value) (ds fs ac : List Int) (w : World) (h1 : Nums w d ds) (h2 : Nums w f fs) (h3 : Nums w a ac) (k1 : Nums w d' ds) (k2 : Nums w f' fs) (k3 : Nums w a' ac) :
    Calls Try.prog 6 #[.agg #[d, f, a], .agg #[d', f', a']] w fun x w' => x = .returned (.bool true) ∧ Below w.heap.size w w' := by
  obtain ⟨xa, xn, xc, rfl⟩ := nums_slice h1
  obtain ⟨ya, yn, yc, rfl⟩ := nums_slice h2
  obtain ⟨za, zn, zc, rfl⟩ := nums_slice h3
  obtain ⟨pa, pn, pc, rfl⟩ := nums_slice k1
  obtain ⟨qa, qn, qc, rfl⟩ := nums_slice k2
  obtain ⟨ra, rn, rc, rfl⟩ := nums_slice k3
  have H1 := hide h1
  have H2 := hide h2
  have H3 := hide h3
  have K1 := hide k1
  have K2 := hide k2
  have K3 := hide k3
  clear h1 h2 h3 k1 k2 k3
  have B0 := hide ((Below.refl w.heap.size w).alloc (Nat.le_refl _) (.cells #[.slice xa xn xc, .slice ya yn yc, .slice za zn zc] 29))
  have B1 := hide (B0.out.alloc (by simp) (.cells #[.slice pa pn pc, .slice qa qn qc, .slice ra rn rc] 29))
  have X0 := hide (blk_keep (blk_alloc w (.cells #[.slice xa xn xc, .slice ya yn yc, .slice za zn zc] 29)) (.cells #[.slice pa pn pc, .slice qa qn qc, .slice ra rn rc] 29))
  have X1 := hide (blk_at (W := w.alloc (.cells #[.slice xa xn xc, .slice ya yn yc, .slice za zn zc] 29)) (b := w.heap.size + 1) (by simp) (.cells #[.slice pa pn pc, .slice qa qn qc, .slice ra rn rc] 29))
  go_enter Try.func6, Try.ntmps6
  go_wp2_with fail
  refine (equalInts_same _ _ ds _ (H1.out.keep B1.out) (K1.out.keep B1.out)).mono ?_
  rintro e1 w1 ⟨rfl, hb⟩
  have W1 : Hid (Below w.heap.size w w1) := B1.out.trans (hb.mono B1.out.size)
  have Y0 := hide (blk_own hb X0.out)
  have Y1 := hide (blk_own hb X1.out)
  obtain ⟨c0, c1, c2⟩ := cellsA3 Y0.out
  obtain ⟨e0, e1, e2⟩ := cellsA3 Y1.out
  clear hb
  go_wp2_with fail
  refine (equalInts_same _ _ fs _ (H2.out.keep W1.out) (K2.out.keep W1.out)).mono ?_
  rintro e1 w2 ⟨rfl, hb⟩
  have W2 : Hid (Below w.heap.size w w2) := W1.out.trans (hb.mono W1.out.size)
  have Y0 := hide (blk_own hb Y0.out)
  have Y1 := hide (blk_own hb Y1.out)
  clear hb c0 c1 c2 e0 e1 e2
  obtain ⟨c0, c1, c2⟩ := cellsA3 Y0.out
  obtain ⟨e0, e1, e2⟩ := cellsA3 Y1.out
  go_wp2_with fail
  refine (equalInts_same _ _ ac _ (H3.out.keep W2.out) (K3.out.keep W2.out)).mono ?_
  rintro e1 w3 ⟨rfl, hb⟩
  have W3 : Hid (Below w.heap.size w w3) := W2.out.trans (hb.mono W2.out.size)
  clear hb c0 c1 c2 e0 e1 e2
  go_wp2_with fail
  go_ret
  exact ⟨rfl, W3.out⟩

/-- each edit among the first k has been done -/
def doneTo (c : List RCell) (l : List RNote) (k : Nat) : Prop := ∀ i (h : i < l.length), i < k → l[i].fin = false → ∃ t : Nat, ∃ ht : t < c.length, l[i].thing = (t : Int) ∧ (i : Int) + 1 ≤ c[t].lsn
theorem doneTo_skip {c : List RCell} {l : List RNote} {k : Nat} (h : doneTo c l k) (hk : k < l.length) (hs : l[k].fin = false → ∃ t : Nat, ∃ ht : t < c.length, l[k].thing = (t : Int) ∧ (k : Int) + 1 ≤ c[t].lsn) : doneTo c l (k + 1) := fun i hi hik hf => by
  rcases Nat.lt_or_ge i k with q | q
  · exact h i hi q hf
  · obtain rfl : i = k := by omega
    exact hs hf
theorem doneTo_set {c : List RCell} {l : List RNote} {k t : Nat} {x : Int} (h : doneTo c l k) (hk : k < l.length) (ht : t < c.length) (hth : l[k].thing = (t : Int)) (hlt : c[t].lsn < (k : Int) + 1) : doneTo (c.set t ⟨x, (k : Int) + 1⟩) l (k + 1) := fun i hi hik hf => by
  rcases Nat.lt_or_ge i k with q | q
  · obtain ⟨t', ht', h1, h2⟩ := h i hi q hf
    refine ⟨t', by rw [List.length_set]; exact ht', h1, ?_⟩
    rw [List.getElem_set]
    split
    · subst_vars; simp only; omega
    · exact h2
  · obtain rfl : i = k := by omega
    refine ⟨t, by rw [List.length_set]; exact ht, hth, ?_⟩
    rw [List.getElem_set, if_pos rfl]
    exact Int.le_refl _
theorem celCells_set (l : List RCell) (k : Nat) (x y : Int) (h : k < l.length) : ((celCells l).set (k * 2) (.int .i64 x)).set (k * 2 + 1) (.int .i64 y) = celCells (l.set k ⟨x, y⟩) := by
  induction l generalizing k with
  | nil => simp at h
  | cons c l ih =>
    cases k with
    | zero => rfl
    | succ k =>
      have := ih k (by simpa using h)
      show ((.int .i64 c.num :: .int .i64 c.lsn :: celCells l).set ((k + 1) * 2) _).set ((k + 1) * 2 + 1) _ = _
      rw [show (k + 1) * 2 + 1 = k * 2 + 1 + 1 + 1 by omega, show (k + 1) * 2 = k * 2 + 1 + 1 by omega, List.set_cons_succ, List.set_cons_succ, List.set_cons_succ, List.set_cons_succ, this]
      rfl
theorem OwnCl.put {B g n c k : Nat} {w : World} {l : List RCell} (h : OwnCl B w (.slice (some ⟨g, 0, none⟩) n c) l) (hk : k < l.length) (x y : Int) :
    OwnCl B ((w.setCell ⟨g, k * 2, none⟩ (.int .i64 x)).setCell ⟨g, k * 2 + 1, none⟩ (.int .i64 y)) (.slice (some ⟨g, 0, none⟩) n c) (l.set k ⟨x, y⟩) := by
  have hn : n = l.length := by
    rcases h.2 with ⟨e, _⟩ | ⟨g', cap', cur, e, _⟩
    · cases e
    · injection e
  subst hn
  have s := (World.ownsRow.stored (World.ownsRow.stored h (k * 2) (.int .i64 x)).1 (k * 2 + 1) (.int .i64 y)).1
  rw [celCells_set l k x y hk] at s
  unfold OwnCl
  rw [List.length_set]
  exact s
/-- what RedoCells hands back -/
def RDPost (w : World) (c : List RCell) (l : List RNote) (e : Ending) (w' : World) : Prop := ∃ v c', e = .returned v ∧ OwnCl w.heap.size w' v c' ∧ c'.length = c.length ∧ doneTo c' l l.length ∧ Below w.heap.size w w'
set_option maxHeartbeats 16000000 in
set_option maxRecDepth 100000 in
theorem redo_any (v u : Value) (c : List RCell) (l : List RNote) (w : World) (h : Cells w v c) (h' : Notes w u l) (hus : usP c l) :
    Calls Try.prog 18 #[v, u, .int .i64 1] w (RDPost w c l) := by
  have HC := hide h
  have HUS := hide hus
  have hc6 : c.length ≤ 6 := hus.1.1.2
  have hc1 : 1 ≤ c.length := hus.1.1.1
  have hl20 : l.length ≤ 20 := hus.1.2
  have HU := hide h'
  obtain ⟨a, cap, rfl, -⟩ := h
  obtain ⟨a2, cap2, rfl, hl2, hcap2, hd⟩ := h'
  clear hus
  go_enter Try.func18, Try.ntmps18
  go_wp2_with fail
  refine (cloneC_any _ c w HC.out (by omega)).mono ?_
  rintro e w1 ⟨cv, rfl, ho, hb⟩
  have H1 := hide hb
  have HO1 := hide ho
  obtain ⟨gc, cc, rfl⟩ : ∃ g k, cv = .slice (some ⟨g, 0, none⟩) c.length k := by
    rcases ho.2 with ⟨rfl, h0⟩ | ⟨g, k, cur, rfl, -⟩
    · omega
    · exact ⟨g, k, rfl⟩
  have hgc := (World.ownsRow.lt ho gc rfl).1
  clear ho hb
  go_wp2_with fail
  go_loopg [15] l.length (fun gk s15 wr => Below w.heap.size w wr ∧ ∃ k : Nat, k + gk = l.length ∧ s15 = .int .i64 (k : Int) ∧ ∃ c', OwnCl w.heap.size wr (.slice (some ⟨gc, 0, none⟩) c.length cc) c' ∧ Hid (c'.length = c.length) ∧ Hid (doneTo c' l k))
  case atStart => exact ⟨H1.out, 0, by omega, rfl, c, HO1.out, hide rfl, fun i _ hi => by omega⟩
  case round =>
    clear HO1
    obtain ⟨hbw, k, hk, rfl, c', hown, hcl, hdone⟩ := hrel
    have HW := hide hbw
    have HO := hide hown
    clear hown
    by_cases hlt : k < l.length
    · obtain ⟨b, off, rfl, hbb, hcell⟩ := hd.resolve_left (by rintro rfl; simp at hlt)
      have E := hide ((hcell k hlt).keep hbw)
      have hnp := HUS.out.2.2 k hlt
      have HSK := hide (doneTo_skip hdone.out hlt)
      have HST := hide (fun t x ht hth hl => doneTo_set (x := x) (t := t) hdone.out hlt ht hth hl)
      clear hcell hd
      obtain ⟨y, hy⟩ : ∃ y, l[k] = y := ⟨_, rfl⟩
      rw [hy] at E hnp HSK HST
      clear hy
      obtain ⟨fin, ow, th, od, nw⟩ := y
      obtain ⟨-, ⟨ht0, ht1⟩, -, -⟩ := hnp
      simp only at ht0 ht1
      obtain ⟨t, rfl⟩ : ∃ t : Nat, th = (t : Int) := ⟨th.toNat, by omega⟩
      obtain ⟨e0, e1, e2, e3, e4⟩ := E.out
      simp only at e0 e1 e2 e3 e4
      have hws := HW.out.size
      have HBX : Hid (Below w.heap.size w (wr.alloc (.cells #[.bool fin, .int .i64 ow, .int .i64 (t : Int), .int .i64 od, .int .i64 nw] 41))) := HW.out.alloc HW.out.size _
      have HOX := hide (OwnCl.alloc HO.out (.cells #[.bool fin, .int .i64 ow, .int .i64 (t : Int), .int .i64 od, .int .i64 nw] 41))
      have hk1 : decide ((1 : Int) ≤ (k : Int) + 1) = true := decide_eq_true (by omega)
      cases fin with
      | true =>
        have HD := hide (HSK.out (fun h => by cases h))
        go_wp2_with fail
        go_roundg (gk - 1)
        case measure => omega
        case rel => exact ⟨HBX.out, k + 1, by omega, by go_num, c', HOX.out, hcl, HD⟩
      | false =>
        have htc : t < c'.length := by have := hcl.out; omega
        have htc' : t < c.length := by omega
        have n0 : wr.cell? ⟨gc, t * 2 + 1, none⟩ = some (.int .i64 c'[t].lsn) := by
          rw [World.ownsRow.cellAt (by have := HO.out; unfold OwnCl at this; rw [hcl.out] at this; exact this) _ (by omega)]
          exact (celCells_at c' t htc).2
        have hgl : gc < wr.heap.size := lt_cell n0
        by_cases hlsn : c'[t].lsn < (k : Int) + 1
        · have HD := hide (HST.out t nw htc rfl hlsn)
          have HP := hide (OwnCl.alloc (HO.out.put htc nw ((k : Int) + 1)) (.cells #[.bool false, .int .i64 ow, .int .i64 (t : Int), .int .i64 od, .int .i64 nw] 41))
          have m0 : ∃ q, wr.cell? ⟨gc, t * 2, none⟩ = some q := by
            rw [World.ownsRow.cellAt (by have := HO.out; unfold OwnCl at this; rw [hcl.out] at this; exact this) _ (by omega)]
            exact ⟨_, (celCells_at c' t htc).1⟩
          obtain ⟨q0, m0⟩ := m0
          have f0 := World.ownsRow.frozenAt (by have := HO.out; unfold OwnCl at this; rw [hcl.out] at this; exact this) (t * 2)
          have f1 := World.ownsRow.frozenAt (by have := HO.out; unfold OwnCl at this; rw [hcl.out] at this; exact this) (t * 2 + 1)
          have HW2 : Hid (Below w.heap.size w ((wr.setCell ⟨gc, t * 2, none⟩ (.int .i64 nw)).setCell ⟨gc, t * 2 + 1, none⟩ (.int .i64 ((k : Int) + 1)))) := (HW.out.setCell hgc _).setCell hgc _
          have HWS := hide (HW2.out.alloc HW2.out.size (.cells #[.bool false, .int .i64 ow, .int .i64 (t : Int), .int .i64 od, .int .i64 nw] 41))
          have HCL : Hid ((c'.set t ⟨nw, (k : Int) + 1⟩).length = c.length) := by unfold Hid; rw [List.length_set]; exact hcl.out
          clear HST HSK
          generalize c'[t].lsn = ls at *
          have d1 : decide (ls < (k : Int) + 1) = true := decide_eq_true hlsn
          go_wp2_with fail
          go_roundg (gk - 1)
          case measure => omega
          case rel => exact ⟨HWS.out, k + 1, by omega, by go_num, _, HP.out, HCL, HD⟩
        · have HD := hide (HSK.out (fun _ => ⟨t, htc, rfl, by omega⟩))
          clear HST HSK
          generalize c'[t].lsn = ls at *
          have d1 : decide (ls < (k : Int) + 1) = false := decide_eq_false hlsn
          go_wp2_with fail
          go_roundg (gk - 1)
          case measure => omega
          case rel => exact ⟨HBX.out, k + 1, by omega, by go_num, c', HOX.out, hcl, HD⟩
    · have hkl : k = l.length := by omega
      subst hkl
      clear hd hbw
      go_wp2_with fail
      go_ret
      exact ⟨_, c', rfl, HO.out, hcl.out, hdone.out, HW.out⟩
/-- what RedoCells hands back, of any arguments -/
def RCPost (w : World) (c : List RCell) (l : List RNote) (e : Ending) (w' : World) : Prop := ∃ v c', e = .returned v ∧ Cells w' v c' ∧ (usP c l → c'.length = c.length ∧ doneTo c' l l.length) ∧ (¬ usP c l → c' = []) ∧ Below w.heap.size w w'
set_option maxHeartbeats 4000000 in
theorem redoCells_any (v u : Value) (c : List RCell) (l : List RNote) (w : World) (h : Cells w v c) (h' : Notes w u l) :
    Calls Try.prog 8 #[v, u] w (RCPost w c l) := by
  have HC := hide h
  have HU := hide h'
  obtain ⟨a, cap, rfl, -⟩ := h
  obtain ⟨a2, cap2, rfl, -⟩ := h'
  go_enter Try.func8, Try.ntmps8
  go_wp2_with fail
  refine (canRedo_any _ _ c l _ HC.out HU.out).mono ?_
  rintro e w1 ⟨b, rfl, hb, hb1⟩
  have H1 := hide hb1
  have HB := hide hb
  clear hb hb1
  cases b with
  | false =>
    have NU : Hid (¬ usP c l) := fun hu => by have := HB.out.2 hu; cases this
    go_wp2_with fail
    go_ret
    exact ⟨_, [], rfl, ⟨none, 0, rfl, by simp, by omega, .inl rfl⟩, fun h => absurd h NU.out, fun _ => rfl, H1.out⟩
  | true =>
    have US : Hid (usP c l) := HB.out.1 rfl
    go_wp2_with fail
    refine (redo_any _ _ c l w1 (HC.out.keep H1.out) (HU.out.keep H1.out) US.out).mono ?_
    rintro e w2 ⟨v', c', rfl, ho, hl, hdn, hb⟩
    have H2 : Hid (Below w.heap.size w w2) := H1.out.trans (hb.mono H1.out.size)
    have HO := hide ho.rows
    have HP : Hid (c'.length = c.length ∧ doneTo c' l l.length) := ⟨hl, hdn⟩
    obtain ⟨ra, rc, rfl, -⟩ := own_shape ho
    clear ho hl hdn hb
    go_wp2_with fail
    go_ret
    exact ⟨_, c', rfl, HO.out, fun _ => HP.out, fun h => absurd US.out h, H2.out⟩
/-- the plain law -/
theorem lo_hit {p : Nat → Bool} : ∀ m i, lo p i m ≠ 0 → ∃ j, lo p i m = j + 1 ∧ p j = true ∧ j < i + m := by
  intro m
  induction m with
  | zero => intro i h; simp [lo] at h
  | succ m ih =>
    intro i h
    unfold lo at h ⊢
    split
    · rename_i hp; exact ⟨i, rfl, hp, by omega⟩
    · rename_i hp
      rw [if_neg hp] at h
      obtain ⟨j, h1, h2, h3⟩ := ih (i + 1) h
      exact ⟨j, h1, h2, by omega⟩
theorem dirT_spec (F : Nat → Nat) : ∀ k i (h : i < (dirT F k).length) (h' : i < (firT F k).length), ∃ t : Nat, t < k ∧ (dirT F k)[i] = (t : Int) ∧ (firT F k)[i] = (F t : Int) ∧ F t ≠ 0 ∧ ∀ h0 : 0 < i, (dirT F k)[i - 1]'(by omega) < (dirT F k)[i] := by
  intro k
  induction k with
  | zero => intro i h; simp [dirT] at h
  | succ k ih =>
    intro i h h'
    by_cases hF : F k = 0
    · have e1 := dirT_no hF
      have e2 := firT_no hF
      rw [e1] at h; rw [e2] at h'
      obtain ⟨t, h1, h2, h3, h4, h5⟩ := ih i h h'
      exact ⟨t, by omega, by simp only [e1]; exact h2, by simp only [e2]; exact h3, h4, fun h0 => by simp only [e1]; exact h5 h0⟩
    · have e1 := dirT_yes hF
      have e2 := firT_yes hF
      have hle := (dirT_len F k).2
      rw [e1] at h; rw [e2] at h'
      simp only [List.length_append, List.length_singleton] at h h'
      rcases Nat.lt_or_ge i (dirT F k).length with q | q
      · obtain ⟨t, h1, h2, h3, h4, h5⟩ := ih i q (by omega)
        refine ⟨t, by omega, ?_, ?_, h4, fun h0 => ?_⟩
        · simp only [e1]; rw [List.getElem_append_left q]; exact h2
        · simp only [e2]; rw [List.getElem_append_left (by omega)]; exact h3
        · simp only [e1]; rw [List.getElem_append_left q, List.getElem_append_left (by omega)]; exact h5 h0
      · obtain rfl : i = (dirT F k).length := by omega
        refine ⟨k, by omega, ?_, ?_, hF, fun h0 => ?_⟩
        · simp only [e1]; rw [List.getElem_append_right (by omega)]; simp
        · simp only [e2]; rw [List.getElem_append_right (by omega)]; simp [hle]
        · simp only [e1]; rw [List.getElem_append_left (by omega), List.getElem_append_right (by omega)]
          obtain ⟨t, h1, h2, -⟩ := ih ((dirT F k).length - 1) (by omega) (by omega)
          rw [h2]; simp; omega
/-- what the law asks of the dirty things -/
structure DirD (c : List RCell) (ds fs : List Int) : Prop where
  ln : ds.length = fs.length
  le : ds.length ≤ c.length
  at_ : ∀ i (h : i < ds.length) (h' : i < fs.length), ∃ t : Nat, ∃ ht : t < c.length, ds[i] = (t : Int) ∧ c[t].lsn < fs[i] ∧ ∀ h0 : 0 < i, ds[i - 1]'(by omega) < ds[i]
theorem dirD {c : List RCell} {l : List RNote} {ds fs ac : List Int} (h : CkOf c l ds fs ac) : DirD c ds fs := by
  by_cases hu : usP c l
  · obtain ⟨rfl, rfl, -⟩ := h.1 hu
    have hle := dirT_len (fstN c l) c.length
    refine ⟨hle.2.symm, hle.1, fun i h h' => ?_⟩
    obtain ⟨t, ht, h1, h2, h3, h4⟩ := dirT_spec (fstN c l) c.length i h h'
    refine ⟨t, ht, h1, ?_, h4⟩
    obtain ⟨j, hj, hp, hjl⟩ := lo_hit _ _ h3
    rw [h2]
    have hj' : fstN c l t = j + 1 := hj
    rw [hj']
    rw [hitF_at ht (by omega)] at hp
    unfold hit at hp
    simp only [Bool.and_eq_true, decide_eq_true_eq] at hp
    have := hp.2
    omega
  · obtain ⟨rfl, rfl, -⟩ := h.2 hu
    exact ⟨rfl, by simp, fun i h => by simp at h⟩
theorem CkOf.uniq {c : List RCell} {l : List RNote} {ds fs ac ds' fs' ac' : List Int} (h : CkOf c l ds fs ac) (h' : CkOf c l ds' fs' ac') : ds' = ds ∧ fs' = fs ∧ ac' = ac := by
  by_cases hu : usP c l
  · obtain ⟨rfl, rfl, rfl⟩ := h.1 hu
    exact h'.1 hu
  · obtain ⟨rfl, rfl, rfl⟩ := h.2 hu
    exact h'.2 hu
theorem dirT_zero {F : Nat → Nat} : ∀ k, (∀ t, t < k → F t = 0) → dirT F k = [] := by
  intro k
  induction k with
  | zero => intro _; rfl
  | succ k ih => intro h; rw [dirT_no (h k (by omega)), ih (fun t ht => h t (by omega))]
/-- behind RedoCells nothing is dirty -/
theorem redo_clean {c : List RCell} {l : List RNote} {ds fs ac : List Int} (h : CkOf c l ds fs ac) (hd : doneTo c l l.length) : ds = [] := by
  by_cases hu : usP c l
  · obtain ⟨rfl, -, -⟩ := h.1 hu
    refine dirT_zero _ fun t ht => ?_
    cases hq : fstN c l t with
    | zero => rfl
    | succ m =>
      exfalso
      obtain ⟨j, hj, hp, hjl⟩ := lo_hit (p := hitF c l t) l.length 0 (by show fstN c l t ≠ 0; omega)
      have hjl : j < l.length := by omega
      rw [hitF_at ht hjl] at hp
      unfold hit at hp
      simp only [Bool.and_eq_true, decide_eq_true_eq, Bool.not_eq_true', beq_iff_eq] at hp
      obtain ⟨⟨hf, hth⟩, hls⟩ := hp
      obtain ⟨t', ht', h1, h2⟩ := hd j hjl hjl hf
      rw [hth] at h1
      have : t = t' := by omega
      subst this
      omega
  · exact (h.2 hu).1
end Go.Proofs.Ytnicjpfkiblimaa
