/-
  append of any items to an empty literal: the copy of a row. validMoves and RowsAfter of the specification.
-/
import Derived.Test.YtppbmhlmbepneaaSpecI
import Derived.Test.YtppbmhlmbepneaaVRows
import Derived.Test.YtppbmhlmbepneaaIScan
set_option linter.all false
namespace Go.Proofs.Ytppbmhlmbepneaa
open Go.RowKit
/-- nil means nil -/
def NilOk (v : Value) : Prop := ∀ n c, v = .slice none n c → c = 0
theorem nilOk_some {b : Addr} {n c : Nat} : NilOk (.slice (some b) n c) := fun _ _ e => by cases e
theorem nilOk_own {B size n : Nat} {e : TypeId} {w : World} {v : Value} {xs : List Value} (h : w.ownsRow B e size v n xs) : NilOk v := fun n' c e => by
  rcases h.2 with ⟨rfl, _⟩ | ⟨g, cap, cur, rfl, _⟩
  · injection e with _ _ e; exact e.symm
  · cases e
theorem wpList_copyI {w : World} {ops : Array Oper} {rest : List Oper} {o : Oper} {a : Act} {Q : Exit → Act → World → Prop} (hgd : o.guard = none) (s x : Operand)
    (ho : o.op = .call { callee := .builtin .append, args := #[s, x], argTypes := #[23, 23] })
    (B g : Nat) (hs : a.eval s = .slice (some ⟨g, 0, none⟩) 0 0) (hown : w.ownsRow B 29 2 (.slice (some ⟨g, 0, none⟩) 0 0) 0 [])
    (v : Value) (l : List Itm) (hx : a.eval x = v) (h : Itms w v l) (hnil : NilOk v) (hn : l.length ≤ 1048576) (hB : B ≤ w.heap.size)
    (hK : ∀ g' cap' w', OwnI B w' (.slice (some ⟨g', 0, none⟩) l.length cap') l → w.grownBy w' (some g) → wpList Try.prog ops Q rest (a.put o.dst (.slice (some ⟨g', 0, none⟩) l.length cap')) w') : wpList Try.prog ops Q (o :: rest) a w := by
  obtain ⟨i0, hi, hz0, hz1, hz2⟩ := info_parts infoI
  obtain ⟨ao, cap, rfl, hl, hcap, hd⟩ := h
  by_cases h0 : l = []
  · subst h0
    refine wpList_append_fits_any w hgd s x 23 ho B 29 i0 2 Try.underlying23 hi hz1 g 0 0 [] hs hown ao 0 cap [] hx rfl (fun e => ⟨rfl, hnil 0 cap (by rw [e]; rfl)⟩) (fun _ _ j u hu => by simp at hu) (fun u hu => by simp at hu) (Nat.le_refl _) ?_
    intro w' h1 h2
    exact hK g 0 w' h1 h2
  · obtain ⟨b, off, rfl, -, hc⟩ := hd.resolve_left h0
    have hpos : 0 < l.length := List.length_pos_iff.2 h0
    refine wpList_append_lies w hgd s x 23 ho B 29 i0 _ 2 16 Try.underlying23 hi hz0 hz1 hz2 rfl (by decide) _ 0 [] hs hown ⟨b, off, none⟩ l.length cap (itmCells l) hx (itmCells_len l) (fun j u hu => by rw [Addr.add_lit]; exact itms_news hc j u hu) (itmCells_one l) hpos (by unfold maxLen; omega) (by omega) hB _ rfl ?_
    intro g' cap' w' h1 h2 _ _
    rw [Nat.zero_add, List.nil_append] at h1
    rw [Nat.zero_add]
    exact hK g' cap' w' h1 h2
set_option maxHeartbeats 16000000 in
set_option maxRecDepth 100000 in
theorem svalidMoves_any (v u : Value) (l : List Itm) (ms : List RMove) (w : World) (h : Itms w v l) (h' : Moves w u ms) :
    Calls Try.prog 50 #[v, u] w (BRet w (vMoves l ms)) := by
  have HI := hide h
  have HV := hide (svalidRows_any v l w h)
  obtain ⟨a, cap, rfl, hl, hcap, -⟩ := h
  obtain ⟨ua, uc, rfl, hul, huc, hd⟩ := h'
  go_enter Try.func50, Try.ntmps50
  go_wp2_with fail
  refine HV.out.mono ?_
  rintro e w1 ⟨q, rfl, hv, hb⟩
  have H1 := hide hb
  have HVV := hide hv
  have HI1 := hide (HI.out.keep hb)
  clear hb hv HV
  cases q with
  | false =>
    have HN : Hid (¬ vMoves l ms) := fun h => by have := HVV.out.2 h.1.1; cases this
    go_wp2_with fail
    go_ret
    exact bret_no HN.out H1.out
  | true =>
    have HY : Hid (vRows l) := HVV.out.1 rfl
    clear HVV
    by_cases h16 : (16 : Int) < (ms.length : Int)
    · have d16 : decide ((16 : Int) < (ms.length : Int)) = true := decide_eq_true h16
      have HN : Hid (¬ vMoves l ms) := fun h => by have := h.1.2; omega
      clear h16
      go_wp2_with fail
      go_ret
      exact bret_no HN.out H1.out
    have d16 : decide ((16 : Int) < (ms.length : Int)) = false := decide_eq_false h16
    have HL : Hid (ms.length ≤ 16) := by unfold Hid; omega
    clear h16
    go_wp2_with fail
    go_loopg [0, 5] ms.length (fun gk sa sk wr => Below w.heap.size w wr ∧ ∃ k : Nat, k + gk = ms.length ∧ sk = .int .i64 (k : Int) ∧ Itms wr sa (rowsAt l ms k) ∧ (rowsAt l ms k).length ≤ 30 ∧ ∀ j (h : j < ms.length), j < k → okM ms[j] ∧ (rowsAt l ms (j + 1)).length ≤ 30)
    case atStart => exact ⟨H1.out, 0, by omega, rfl, HI1.out, HY.out.1, fun j _ hj => by omega⟩
    case round =>
      clear HI1
      obtain ⟨hbw, k, hk, rfl, hrows, hr30, hP⟩ := hrel
      have HW := hide hbw
      have HP := hide hP
      have HR := hide hrows
      clear hP
      by_cases hlt : k < ms.length
      · obtain ⟨b, off, rfl, hbb, hcell⟩ := hd.resolve_left (by rintro rfl; simp at hlt)
        have hbl := Nat.lt_of_lt_of_le hbb hbw.size
        have E := hide ((hcell k hlt).keep hbw)
        have HS1 := hide (rowsAt_s (l := l) hlt)
        obtain ⟨m, hm⟩ : ∃ m, ms[k] = m := ⟨_, rfl⟩
        obtain ⟨R1, hR1⟩ : ∃ R1, rowsAt l ms (k + 1) = R1 := ⟨_, rfl⟩
        obtain ⟨R0, hR0⟩ : ∃ R0, rowsAt l ms k = R0 := ⟨_, rfl⟩
        have HR1 := hide hR1
        have HA : Hid (¬ (okM m ∧ R1.length ≤ 30) → ¬ vMoves l ms) := fun h h' => h ⟨hm ▸ (h'.2 k hlt).1, hR1 ▸ (h'.2 k hlt).2⟩
        have HS : Hid (okM m ∧ R1.length ≤ 30 → ∀ j (h : j < ms.length), j < k + 1 → okM ms[j] ∧ (rowsAt l ms (j + 1)).length ≤ 30) := fun h j hj hjk => by
          rcases Nat.lt_or_ge j k with q | q
          · exact HP.out j hj q
          · obtain rfl : j = k := by omega
            rw [hm, hR1]; exact h
        rw [hm] at E HS1
        rw [hR0] at HS1 HR hr30 hrows
        rw [hR1] at HS1
        obtain ⟨ra, rc, rfl, hrc1, hrc2, -⟩ := hrows
        clear hcell hd hbw hm hR1 hR0
        obtain ⟨sc, gn, row, key⟩ := m
        obtain ⟨e0, e1, e2, e3⟩ := E.out
        simp only at e0 e1 e2 e3
        have HBX := hide (below_box wr (.cells #[.bool sc, .bool gn, .int .i64 row, .int .i64 key] 42))
        have HWB : Hid (Below w.heap.size w (wr.alloc (.cells #[.bool sc, .bool gn, .int .i64 row, .int .i64 key] 42))) := HW.out.trans (HBX.out.mono HW.out.size)
        have HRB := hide (HR.out.keep HBX.out)
        clear HR HBX
        cases sc with
        | true =>
          have HE : Hid (R1 = R0) := HS1.out
          have d30 : decide ((30 : Int) < (R0.length : Int)) = false := decide_eq_false (by omega)
          have hok : okM ⟨true, gn, row, key⟩ := fun h => by cases h
          have HN := hide (HS.out ⟨hok, by rw [HE.out]; exact hr30⟩)
          clear hok
          have HRR : Hid (rowsAt l ms (k + 1) = R0) := HR1.out.trans HE.out
          have HR30 := hide hr30
          clear hr30
          go_wp2_with fail
          go_roundg (gk - 1)
          case measure => omega
          case rel => exact ⟨HWB.out, k + 1, by omega, by go_num, by rw [HRR.out]; exact HRB.out, by rw [HRR.out]; exact HR30.out, HN.out⟩
        | false =>
          have HE : Hid (R1 = setRowL R0 ⟨false, gn, row, key⟩) := HS1.out
          have HIR := hide (fun n l h z => inRange_any n l h z)
          by_cases hq1 : 0 ≤ row ∧ row ≤ 99
          · have dq1 : decide (0 ≤ row ∧ row ≤ 99) = true := decide_eq_true hq1
            by_cases hq2 : 0 ≤ key ∧ key ≤ 999999
            · have dq2 : decide (0 ≤ key ∧ key ≤ 999999) = true := decide_eq_true hq2
              have HOK : Hid (okM ⟨false, gn, row, key⟩) := fun _ => ⟨hq1, hq2⟩
              have HSR := hide (setRow_any _ R0 ⟨false, gn, row, key⟩ _ HRB.out (by omega))
              clear hq1 hq2
              go_wp2_with fail
              refine (HIR.out _ _ _ _).mono ?_
              rintro e _ ⟨rfl, rfl⟩
              rw [dq1]
              go_wp2_with fail
              refine (HIR.out _ _ _ _).mono ?_
              rintro e _ ⟨rfl, rfl⟩
              rw [dq2]
              go_wp2_with fail
              refine HSR.out.mono ?_
              rintro e w2 ⟨v', rfl, ho, hb⟩
              have H2 : Hid (Below w.heap.size w w2) := HWB.out.trans (hb.mono HWB.out.size)
              rw [← HE.out] at ho
              have HR2 := hide ho.itms
              obtain ⟨va, vc, rfl, -⟩ := own_slc ho
              clear hb ho HSR
              by_cases hl30 : (30 : Int) < (R1.length : Int)
              · have d30 : decide ((30 : Int) < (R1.length : Int)) = true := decide_eq_true hl30
                have HN := hide (HA.out (fun h => by have := h.2; omega))
                clear hl30
                go_wp2_with fail
                go_ret
                exact bret_no HN.out H2.out
              · have d30 : decide ((30 : Int) < (R1.length : Int)) = false := decide_eq_false hl30
                have HN := hide (HS.out ⟨HOK.out, by omega⟩)
                have HR30 : Hid (R1.length ≤ 30) := by unfold Hid; omega
                clear hl30
                go_wp2_with fail
                go_roundg (gk - 1)
                case measure => omega
                case rel => exact ⟨H2.out, k + 1, by omega, by go_num, by rw [HR1.out]; exact HR2.out, by rw [HR1.out]; exact HR30.out, HN.out⟩
            · have dq2 : decide (0 ≤ key ∧ key ≤ 999999) = false := decide_eq_false hq2
              have HN := hide (HA.out (fun h => hq2 (h.1 rfl).2))
              clear hq1 hq2
              go_wp2_with fail
              refine (HIR.out _ _ _ _).mono ?_
              rintro e _ ⟨rfl, rfl⟩
              rw [dq1]
              go_wp2_with fail
              refine (HIR.out _ _ _ _).mono ?_
              rintro e _ ⟨rfl, rfl⟩
              rw [dq2]
              go_wp2_with fail
              go_ret
              exact bret_no HN.out HWB.out
          · have dq1 : decide (0 ≤ row ∧ row ≤ 99) = false := decide_eq_false hq1
            have HN := hide (HA.out (fun h => hq1 (h.1 rfl).1))
            clear hq1
            go_wp2_with fail
            refine (HIR.out _ _ _ _).mono ?_
            rintro e _ ⟨rfl, rfl⟩
            rw [dq1]
            go_wp2_with fail
            go_ret
            exact bret_no HN.out HWB.out
      · have hkl : k = ms.length := by omega
        subst hkl
        have HA : Hid (vMoves l ms) := vMoves_of HY.out HL.out (fun j hj => HP.out j hj hj)
        clear hd hbw hrows hr30
        go_wp2_with fail
        go_ret
        exact bret_yes HA.out HW.out
end Go.Proofs.Ytppbmhlmbepneaa
