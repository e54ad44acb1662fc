/-
  openOwners of the program.
-/
import Derived.Test.YtnicjpfkiblimaaChk4
set_option linter.all false
namespace Go.Proofs.Ytnicjpfkiblimaa
open Go.RowKit
def opB (l : List RNote) (t : Nat) : Bool := !endB l (t : Int) && hasB l (t : Int)
def openT (l : List RNote) (k : Nat) : List Int := ((List.range k).filter (opB l)).map (fun t => ((t : Nat) : Int))
theorem openT_succ (l : List RNote) (k : Nat) : openT l (k + 1) = openT l k ++ (if opB l k then [(k : Int)] else []) := by
  unfold openT
  rw [List.range_succ, List.filter_append, List.map_append]
  congr 1
  by_cases h : opB l k = true <;> simp [h]
theorem openT_len (l : List RNote) (k : Nat) : (openT l k).length ≤ k := by
  unfold openT
  rw [List.length_map]
  exact Nat.le_trans (List.length_filter_le _ _) (by simp)
theorem endArr_at (l : List RNote) {k : Nat} (h : k < 8) : (endArr l)[k]? = some (.bool (endB l (k : Int))) := by
  have hc : k = 0 ∨ k = 1 ∨ k = 2 ∨ k = 3 ∨ k = 4 ∨ k = 5 ∨ k = 6 ∨ k = 7 := by omega
  rcases hc with rfl | rfl | rfl | rfl | rfl | rfl | rfl | rfl <;> rfl
theorem own_not {B : Nat} {w : World} {v : Value} {ns : List Int} {b : Nat} {cs : Array Value} {t : TypeId} (h : OwnN B w v ns) (hb : w.heap[b]? = some (.cells cs t (0, 0))) (ht : t ≠ 3) : v.ownBlock ≠ some b := by
  intro e
  rcases h.2 with ⟨rfl, _⟩ | ⟨g, cap, cur, rfl, _, hg, _⟩
  · simp [Value.ownBlock] at e
  · simp [Value.ownBlock] at e
    subst e
    rw [hg] at hb
    injection hb with hb
    injection hb with _ hb _
    exact ht hb.symm
def OORel (w1 : World) (l : List RNote) (g : Nat) (v4 v5 : Value) (wr : World) : Prop :=
  Below w1.heap.size w1 wr ∧ wr.heap[w1.heap.size]? = some (.cells (endArr l) 56 (0, 0)) ∧ ∃ (k B : Nat), k + g = 8 ∧ v5 = .pointer (some ⟨B, 0, none⟩) ∧ wr.heap[B]? = some (.cells #[.int .i64 (k : Int)] 3 (0, 0)) ∧ v4.ownBlock ≠ some B ∧ OwnN w1.heap.size wr v4 (openT l k)
theorem oo_next {w1 X : World} {l : List RNote} {k g : Nat} {v : Value} (hb1 : Below w1.heap.size w1 X) (HA : X.heap[w1.heap.size]? = some (.cells (endArr l) 56 (0, 0))) (HO : OwnN w1.heap.size X v (openT l (k + 1))) (hk : k + 1 + g = 8) :
    OORel w1 l g v (.pointer (some ⟨X.heap.size, 0, none⟩)) (X.alloc (.cells #[.int .i64 ((k : Int) + 1)] 3)) :=
  ⟨hb1.alloc hb1.size _, blk_keep HA _, k + 1, X.heap.size, hk, rfl, by simpa using blk_alloc X (.cells #[.int .i64 ((k : Int) + 1)] 3), fun e => by have := (World.ownsRow.lt HO _ e).2; omega, World.ownsRow.alloc HO _⟩
set_option maxHeartbeats 8000000 in
theorem openOwners_any (v : Value) (l : List RNote) (w : World) (h : Notes w v l) (ho : ∀ i (h : i < l.length), 0 ≤ l[i].owner ∧ l[i].owner ≤ 7) :
    Calls Try.prog 12 #[v] w fun e w' => ∃ v', e = .returned v' ∧ OwnN w.heap.size w' v' (openT l 8) ∧ Below w.heap.size w w' := by
  have EO := hide (endOwners_any v l w h ho)
  have HV := hide h
  obtain ⟨a, cap, rfl, -⟩ := h
  clear ho
  obtain ⟨i0, hi, hz0, hz1, hz2⟩ := info_parts infoN
  have hmf : ∀ (fn : Fn) (first cap : Array Value) (w : World), (Instr.makeFunc fn first cap).run Try.prog w = .ok (.func fn first cap) w := fun _ _ _ _ => rfl
  go_enter Try.func12, Try.ntmps12
  go_wp2_with fail
  refine EO.out.mono ?_
  rintro e w1 ⟨rfl, hb1⟩
  rw [show endArr l = #[.bool (endB l 0), .bool (endB l 1), .bool (endB l 2), .bool (endB l 3), .bool (endB l 4), .bool (endB l 5), .bool (endB l 6), .bool (endB l 7)] from rfl]
  have H1 := hide hb1
  have V1 := hide (HV.out.keep hb1)
  have hs1 := hb1.size
  clear hb1 EO HV
  go_wp2_with fail
  go_loopg [4, 5] 8 (fun gk s4 s5 wr => OORel w1 l gk s4 s5 wr)
  case atStart => exact ⟨((Below.refl _ _).alloc (Nat.le_refl _) _).alloc (by simp) _, blk_keep (blk_alloc w1 _) _, 0, w1.heap.size + 1, by omega, by first | rfl | simp, blk_at (by simp) _, by simp [Value.ownBlock], World.ownsRow_nil _ _ _ _⟩
  case round =>
    obtain ⟨hb1, hab, k, B, hk, rfl, hB, hne, hown⟩ := hrel
    have HW := hide hb1
    have HA := hide hab
    have HBK := hide hB
    have HO := hide hown
    have HNE := hide hne
    have V := hide (V1.out.keep hb1)
    have hBs : B < wr.heap.size := lt_block hB
    have hAs : w1.heap.size < wr.heap.size := lt_block hab
    have b0 : wr.cell? ⟨B, 0, none⟩ = some (.int .i64 (k : Int)) := cell_block hB 0
    clear hab hB hown hne hb1
    by_cases hlt : k < 8
    · have hk7 : (k : Int) ≤ 7 := by omega
      have d7 : decide ((k : Int) ≤ 7) = true := decide_eq_true hk7
      have hk8 : (k : Int) < 8 := by omega
      have a0 : wr.cell? ⟨w1.heap.size, k, none⟩ = some (.bool (endB l (k : Int))) := by rw [cell_block HA.out]; exact endArr_at l hlt
      have HT := hide (openT_succ l k)
      have hfl := openT_len l k
      obtain ⟨eb, heb⟩ : ∃ eb, endB l (k : Int) = eb := ⟨_, rfl⟩
      rw [heb] at a0
      have HEB := hide heb
      clear heb
      cases eb with
      | true =>
        have HF : Hid (openT l (k + 1) = openT l k) := by unfold Hid; rw [HT.out]; simp [opB, HEB.out]
        go_wp2_with fail
        go_roundg (gk - 1)
        case measure => omega
        case rel => exact oo_next HW.out HA.out (by rw [HF.out]; exact HO.out) (by omega)
      | false =>
        go_wp2_with fail
        refine (containsFunc_any B (k : Int) _ l wr V.out b0).mono ?_
        rintro e w2 ⟨rfl, hb2⟩
        have W2 : Hid (Below w1.heap.size w1 w2) := HW.out.trans (hb2.mono HW.out.size)
        have A2 := hide (blk_own hb2 HA.out)
        have O2 := hide (HO.out.keep hb2)
        have BK2 := hide (blk_own hb2 HBK.out)
        have b2 : w2.cell? ⟨B, 0, none⟩ = some (.int .i64 (k : Int)) := cell_block BK2.out 0
        have hs2 : B < w2.heap.size := lt_block BK2.out
        have hs3 := W2.out.size
        clear hb2 b0 a0
        obtain ⟨hb, hhb⟩ : ∃ hb, hasB l (k : Int) = hb := ⟨_, rfl⟩
        rw [hhb]
        have HHB := hide hhb
        clear hhb
        cases hb with
        | false =>
          have HF : Hid (openT l (k + 1) = openT l k) := by unfold Hid; rw [HT.out]; simp [opB, HHB.out]
          go_wp2_with fail
          go_roundg (gk - 1)
          case measure => omega
          case rel => exact oo_next W2.out A2.out (by rw [HF.out]; exact O2.out) (by omega)
        | true =>
          have HF : Hid (openT l (k + 1) = openT l k ++ [(k : Int)]) := by unfold Hid; rw [HT.out]; simp [opB, HEB.out, HHB.out]
          obtain ⟨T0, hT0⟩ : ∃ T0, openT l k = T0 := ⟨_, rfl⟩
          rw [hT0] at HF O2 hfl
          clear hT0
          go_wp2_with (at_builtin; refine wpList_append_lies _ rfl (.tmp 23) (.tmp 25) 27 rfl w1.heap.size 3 i0 _ 1 8 Try.underlying27 hi hz0 hz1 hz2 rfl (by decide) _ _ _ rfl (World.ownsRow.alloc O2.out _) ⟨_, 0, none⟩ 1 1 [.int .i64 (k : Int)] rfl rfl ?c1 ?h1 (by decide) ?h63 ?hb ?hbase _ rfl ?next)
          case c1 => exact World.news_of_block (cs := #[.int .i64 (k : Int)]) (blk_at rfl _)
          case h1 => intro u hu; simp at hu; subst hu; rfl
          case h63 => unfold maxLen; omega
          case hb => omega
          case hbase => simp; omega
          case next =>
            intro g cp w3 hown hgrow hat hlt3
            have HN : Hid (OwnN w1.heap.size w3 (.slice (some ⟨g, 0, none⟩) (T0.length + 1) cp) (openT l (k + 1))) := by
              rw [HF.out]
              unfold Hid OwnN
              rw [List.length_append, List.map_append]
              exact hown
            have W3 : Hid (Below w1.heap.size w1 w3) := (W2.out.alloc W2.out.size _).grown hgrow (by simp; omega) (fun q hq => (World.ownsRow.lt O2.out q hq).1)
            have A3 : Hid (w3.heap[w1.heap.size]? = some (.cells (endArr l) 56 (0, 0))) := (hgrow.block _ (by simp; omega) (fun hq => own_not O2.out A2.out (by decide) hq.symm)).trans (blk_keep A2.out _)
            have b3 : w3.cell? ⟨B, 0, none⟩ = some (.int .i64 (k : Int)) := cell_block ((hgrow.block B (by simp; omega) (fun hq => HNE.out hq.symm)).trans (blk_keep BK2.out _)) 0
            have hs4 : B < w3.heap.size := lt_cell b3
            clear hown hgrow hat b2
            go_wp2_with fail
            go_roundg (gk - 1)
            case measure => omega
            case rel => exact oo_next W3.out A3.out HN.out (by omega)
    · have hk8 : k = 8 := by omega
      subst hk8
      have d7 : ¬ ((8 : Nat) : Int) ≤ 7 := by omega
      go_wp2_with fail
      go_ret
      exact ⟨_, rfl, own_mono HO.out hs1, H1.out.trans (HW.out.mono hs1)⟩
end Go.Proofs.Ytnicjpfkiblimaa
