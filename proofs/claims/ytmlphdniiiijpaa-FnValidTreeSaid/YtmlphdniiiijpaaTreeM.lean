/-
  Leaves in memory; slices.Grow of nil and slices.Concat at items.
-/
import Derived.Test.YtmlphdniiiijpaaTreeL2
import Derived.Test.YtmlphdniiiijpaaCopyI
import Derived.Lib.AppendZeros
set_option linter.all false
namespace Go.Proofs.Ytmlphdniiiijpaa
open Go.RowKit
/-- leaves in memory: a row of rows of items -/
def Lvs (w : World) (v : Value) (t : List (List Itm)) : Prop := ∃ a cap, v = .slice a t.length cap ∧ t.length ≤ cap ∧ cap ≤ 9223372036854775807 ∧
  (t = [] ∨ ∃ b off, a = some ⟨b, off, none⟩ ∧ b < w.heap.size ∧ ∀ i (h : i < t.length), ∃ lv, w.cell? ⟨b, off + i, none⟩ = some lv ∧ Itms w lv t[i] ∧ NilOk lv)
theorem Lvs.keep {w w' : World} {v : Value} {t : List (List Itm)} (h : Lvs w v t) (hb : Below w.heap.size w w') : Lvs w' v t := by
  obtain ⟨a, cap, rfl, hl, hc, hd⟩ := h
  refine ⟨a, cap, rfl, hl, hc, ?_⟩
  rcases hd with hd | ⟨b, off, rfl, hlt, hcell⟩
  · exact .inl hd
  · refine .inr ⟨b, off, rfl, Nat.lt_of_lt_of_le hlt hb.size, fun i hi => ?_⟩
    obtain ⟨lv, h1, h2, h3⟩ := hcell i hi
    exact ⟨lv, (hb.cell hlt).trans h1, h2.keep hb, h3⟩
theorem itms_shape {w : World} {v : Value} {l : List Itm} (h : Itms w v l) : ∃ a c, v = .slice a l.length c := by
  obtain ⟨a, c, rfl, -⟩ := h
  exact ⟨a, c, rfl⟩
/-- append of any items to a row of items that the call owns -/
theorem wpList_appI {w : World} {ops : Array Oper} {rest : List Oper} {o : Oper} {a : Act} {Q : Exit → Act → World → Prop} (hgd : o.guard = none) (s x : Operand)
    (ho : o.op = .call { callee := .builtin .append, args := #[s, x], argTypes := #[28, 28] })
    (B : Nat) (v0 : Value) (l0 : List Itm) (hs : a.eval s = v0) (hown : OwnI B w v0 l0) (h0 : l0.length ≤ 1048576)
    (v : Value) (l : List Itm) (hx : a.eval x = v) (h : Itms w v l) (hnil : NilOk v) (hn : l.length ≤ 1048576) (hB : B ≤ w.heap.size)
    (hK : ∀ v' w', OwnI B w' v' (l0 ++ l) → w.grownBy w' v0.ownBlock → wpList Try.prog ops Q rest (a.put o.dst v') w') : wpList Try.prog ops Q (o :: rest) a w := by
  obtain ⟨i0, hi, hz0, hz1, hz2⟩ := info_parts infoI
  obtain ⟨ao, cap, rfl, hl, hcap, hd⟩ := h
  have happ : itmCells (l0 ++ l) = itmCells l0 ++ itmCells l := by simp [itmCells]
  cases ao with
  | none =>
    have hl0 : l = [] := by
      rcases hd with hd | ⟨b, off, he, -⟩
      · exact hd
      · cases he
    subst hl0
    have hc := hnil 0 cap rfl
    subst hc
    have hrun := run_append_owned_none (P := Try.prog) w B 28 o.type 38 i0 2 Try.underlying28 hi v0 l0.length (itmCells l0) hown
    refine Lib.wpList_append_run w hgd s x _ _ ho _ _ hs hx _ _ hrun ?_
    exact hK v0 w (by rw [List.append_nil]; exact hown) (World.grownBy.refl _ _)
  | some ad =>
    have hnews : ∀ j u, (itmCells l)[j]? = some u → w.cell? (ad.add j) = some u := by
      rcases hd with rfl | ⟨b, off, he, -, hc⟩
      · intro j u hu; simp [itmCells] at hu
      · injection he with he
        subst he
        intro j u hu
        rw [Addr.add_lit]; exact itms_news hc j u hu
    refine wpList_append_own w hgd s x 28 ho B 38 i0 _ 2 16 Try.underlying28 hi hz0 hz1 hz2 rfl (by decide) v0 l0.length (itmCells l0) hs hown ad l.length cap (itmCells l) hx (itmCells_len l) hnews (itmCells_one l) (by unfold maxLen; omega) (by omega) hB ?_
    intro v' w' h1 h2 _
    refine hK v' w' ?_ h2
    unfold OwnI
    rw [happ, List.length_append]
    exact h1
set_option maxHeartbeats 4000000 in
theorem growNil_any (n : Nat) (w : World) (hn : n ≤ 1048576) :
    Calls Try.prog 71 #[.slice none 0 0, .int .i64 (n : Int)] w (ItRet w []) := by
  obtain ⟨i0, hi, hz0, hz1, hz2⟩ := info_parts infoI
  by_cases h0 : n = 0
  · subst h0
    go_enter Try.func71, Try.ntmps71
    go_wp2_with fail
    go_ret
    exact ⟨_, rfl, World.ownsRow_nil _ _ _ _, Below.refl _ _⟩
  · have hpos : (0 : Int) < (n : Int) := by omega
    have dp : decide ((0 : Int) < (n : Int)) = true := decide_eq_true hpos
    have dp2 : decide (0 < n) = true := decide_eq_true (by omega)
    have dng : decide ((n : Int) < 0) = false := decide_eq_false (by omega)
    have happ := fun ty => Lib.run_append_nil_zeros (P := Try.prog) w 28 3 ty 38 i0 (.agg #[.int .i64 0, .int .i64 0]) .i64 .i64 Try.underlying28 Try.underlying3 hi hz0 n (by omega) (by omega) (by omega) (by rw [hz2]; omega)
    generalize hcap : grownCap w n 0 38 = cap2 at happ
    have hcapge : n ≤ cap2 := by rw [← hcap]; exact grownCap_ge w _ 0 38
    have hcaple : cap2 ≤ maxLen := by rw [← hcap]; exact grownCap_le_maxLen w _ 0 38 (by unfold maxLen; omega)
    generalize hZ : (Builtin.zeroCells (Value.agg #[.int .i64 0, .int .i64 0]).cells n ++ Builtin.zeroCells (Value.agg #[.int .i64 0, .int .i64 0]).cells (cap2 - n)) = Z at happ
    have hZs : Z.size = cap2 * 2 := by rw [← hZ]; simp [size_zeroCells, Value.cells]; omega
    have HO : Hid (OwnI w.heap.size (w.drew.alloc (.cells Z 38)) (.slice (some ⟨w.heap.size, 0, none⟩) 0 cap2) []) := World.ownsRow_made w.drew Z cap2 (Nat.le_refl _) hcaple hZs
    have HB : Hid (Below w.heap.size w (w.drew.alloc (.cells Z 38))) := ((Below.refl _ w).drew).alloc (Nat.le_refl _) _
    have hc63 : cap2 ≤ 9223372036854775807 := hcaple
    clear hcap hZ
    go_enter Try.func71, Try.ntmps71
    go_wp2_with (at_builtin; refine Lib.wpList_append_run _ rfl (.tmp 20) (.tmp 21) 28 3 rfl _ _ rfl rfl _ _ (happ _) ?_)
    go_wp2_with fail
    go_ret
    exact ⟨_, rfl, HO.out, HB.out⟩
theorem flatT_take {t : List (List Itm)} {k : Nat} (h : k < t.length) : flatT (t.take (k + 1)) = flatT (t.take k) ++ t[k] := by
  unfold flatT
  rw [List.take_succ_eq_append_getElem h, List.flatten_append]; simp
theorem flatT_take_len (t : List (List Itm)) (k : Nat) : (flatT (t.take k)).length ≤ (flatT t).length := by
  have : flatT t = flatT (t.take k) ++ flatT (t.drop k) := by unfold flatT; rw [← List.flatten_append, List.take_append_drop]
  rw [this, List.length_append]; omega
theorem leaf_len {t : List (List Itm)} {k : Nat} (h : k < t.length) : t[k].length ≤ (flatT t).length := by
  rw [flatT_split h, List.length_append, List.length_append]; omega
set_option maxHeartbeats 16000000 in
set_option maxRecDepth 100000 in
theorem concat_any (v : Value) (t : List (List Itm)) (w : World) (h : Lvs w v t) (hn : (flatT t).length ≤ 1048576) :
    Calls Try.prog 40 #[v] w (ItRet w (flatT t)) := by
  obtain ⟨a, cap, rfl, hl, hcap, hd⟩ := h
  go_enter Try.func40, Try.ntmps40
  go_wp2_with fail
  go_loopg [3, 11] t.length (fun gk s3 s11 wr => Below w.heap.size w wr ∧ ∃ k : Nat, k + gk = t.length ∧ s11 = .int .i64 (k : Int) ∧ ∃ m : Nat, s3 = .int .i64 (m : Int) ∧ Hid (m = (flatT (t.take k)).length))
  case atStart => exact ⟨Below.refl _ _, 0, by omega, rfl, 0, rfl, hide (by simp [flatT])⟩
  case round =>
    obtain ⟨hbw, k, hk, rfl, m, rfl, hm⟩ := hrel
    have HW := hide hbw
    have hmb : m ≤ 1048576 := by have := hm.out; have := flatT_take_len t k; omega
    by_cases hlt : k < t.length
    · obtain ⟨b, off, rfl, hbb, hcell⟩ := hd.resolve_left (by rintro rfl; simp at hlt)
      obtain ⟨lv, e0, hlv, -⟩ := hcell k hlt
      have e0 := (hbw.cell hbb).trans e0
      obtain ⟨la, lc, rfl⟩ := itms_shape hlv
      have HT := hide (congrArg List.length (flatT_take hlt))
      have hll := leaf_len hlt
      clear hcell hd hbw hlv
      obtain ⟨n, hnn⟩ : ∃ n, t[k].length = n := ⟨_, rfl⟩
      have HN := hide hnn
      rw [hnn] at e0 hll
      clear hnn
      have dng : decide ((m : Int) + (n : Int) < 0) = false := decide_eq_false (by omega)
      have hw : IntKind.i64.wrap ((m : Int) + (n : Int)) = (m : Int) + (n : Int) := by rw [IntKind.wrap_i64]; omega
      have hw2 : (m : Int) + (n : Int) ≤ 9223372036854775807 := by omega
      have dng2 : ¬ ((m : Int) + (n : Int) < 0) := by omega
      go_wp2_with fail
      go_roundg (gk - 1)
      case measure => omega
      case rel => exact ⟨HW.out, k + 1, by omega, by go_num, m + n, by go_num, hide (by rw [HT.out, List.length_append, ← hm.out, HN.out])⟩
    · have hkl : k = t.length := by omega
      subst hkl
      have HG := hide (growNil_any m wr (by omega))
      clear hbw
      go_wp2_with fail
      refine HG.out.mono ?_
      rintro e w2 ⟨v2, rfl, ho, hb⟩
      have H2 : Hid (Below w.heap.size w w2) := HW.out.trans (hb.mono HW.out.size)
      have HO : Hid (OwnI w.heap.size w2 v2 []) := own_mono ho HW.out.size
      clear hb ho HG HW
      go_wp2_with fail
      go_loopg [6, 27] t.length (fun gq s6 s27 wq => Below w.heap.size w wq ∧ ∃ k : Nat, k + gq = t.length ∧ s27 = .int .i64 (k : Int) ∧ OwnI w.heap.size wq s6 (flatT (t.take k)))
      case atStart => exact ⟨H2.out, 0, by omega, rfl, by simpa [flatT] using HO.out⟩
      case round =>
        clear H2 HO
        obtain ⟨hbw, k, hk, rfl, hown⟩ := hrel
        have HW := hide hbw
        have HO := hide hown
        clear hown
        by_cases hlt : k < t.length
        · obtain ⟨b, off, rfl, hbb, hcell⟩ := hd.resolve_left (by rintro rfl; simp at hlt)
          obtain ⟨lv, e0, hlv, hnl⟩ := hcell k hlt
          have e0 := (hbw.cell hbb).trans e0
          have HL := hide (hlv.keep hbw)
          have HNL := hide hnl
          have HT := hide (flatT_take hlt)
          have hll := leaf_len hlt
          have hfl := flatT_take_len t k
          obtain ⟨la, lc, rfl⟩ := itms_shape hlv
          clear hcell hd hbw hlv hnl
          have hws := HW.out.size
          generalize t[k] = f at *
          obtain ⟨L1, hL1⟩ : ∃ L1, flatT (t.take (k + 1)) = L1 := ⟨_, rfl⟩
          obtain ⟨L0, hL0⟩ : ∃ L0, flatT (t.take k) = L0 := ⟨_, rfl⟩
          have HL1 := hide hL1
          rw [hL0, hL1] at HT
          rw [hL0] at HO hfl
          clear hL1 hL0
          go_wp2_with (at_builtin; refine wpList_appI rfl (.tmp 31) (.tmp 32) rfl w.heap.size _ L0 rfl HO.out (by omega) _ f rfl HL.out HNL.out (by omega) hws ?next)
          case next =>
            intro v8 w8 ho hg
            have H8 : Hid (Below w.heap.size w w8) := HW.out.grown hg hws (fun q hq => (World.ownsRow.lt HO.out q hq).1)
            rw [← HT.out] at ho
            have HO8 := hide ho
            clear ho hg
            go_wp2_with fail
            go_roundg (gk - 1)
            case measure => omega
            case rel => exact ⟨H8.out, k + 1, by omega, by go_num, by rw [HL1.out]; exact HO8.out⟩
        · have hkl : k = t.length := by omega
          subst hkl
          rw [List.take_length] at HO
          obtain ⟨ra, rc, rfl, -⟩ := own_slc HO.out
          clear hd hbw
          go_wp2_with fail
          go_ret
          exact ⟨_, rfl, HO.out, HW.out⟩
end Go.Proofs.Ytmlphdniiiijpaa
