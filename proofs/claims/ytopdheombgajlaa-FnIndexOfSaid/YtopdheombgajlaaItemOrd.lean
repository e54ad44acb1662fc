/-
  ordered, validRows, IndexOf of the specification, and the generator of items.
-/
import Derived.Test.YtopdheombgajlaaItemPut
set_option linter.all false
namespace Go.Proofs.Ytopdheombgajlaa
open Go.RowKit
def ordL (l : List Itm) : List Itm := l.foldl putL []
theorem ordL_take {l : List Itm} {k : Nat} (h : k < l.length) : ordL (l.take (k + 1)) = putL (ordL (l.take k)) l[k] := by
  unfold ordL
  rw [List.take_succ_eq_append_getElem h, List.foldl_append]
  rfl
theorem ordL_len (l : List Itm) : ∀ k, k ≤ l.length → (ordL (l.take k)).length ≤ k := by
  intro k
  induction k with
  | zero => intro _; simp [ordL]
  | succ k ih =>
    intro hk
    rw [ordL_take (by omega)]
    have := putL_len (ordL (l.take k)) l[k]
    have := ih (by omega)
    omega
set_option maxHeartbeats 4000000 in
theorem ordered_any (v : Value) (l : List Itm) (w : World) (h : Itms w v l) (hn : l.length ≤ 1000) :
    Calls Try.prog 16 #[v] w fun e w' => ∃ v', e = .returned v' ∧ OwnI w.heap.size w' v' (ordL l) ∧ Below w.heap.size w w' := by
  obtain ⟨a, cap, rfl, hl, hcap, hd⟩ := h
  go_enter Try.func16, Try.ntmps16
  go_wp2_with fail
  go_loopg [3, 4] l.length (fun gk s3 s4 wr => Below w.heap.size w wr ∧ ∃ k : Nat, k + gk = l.length ∧ s4 = .int .i64 (k : Int) ∧ OwnI w.heap.size wr s3 (ordL (l.take k)))
  case atStart => exact ⟨below_box _ _, 0, by omega, rfl, own_lit_at rfl (Nat.le_refl _)⟩
  case round =>
    obtain ⟨hbw, k, hk, rfl, hown⟩ := hrel
    have HW := hide hbw
    have HO := hide hown
    clear hown
    by_cases hlt : k < l.length
    · obtain ⟨b, off, rfl, hbb, hcell⟩ := hd.resolve_left (by rintro rfl; simp at hlt)
      obtain ⟨e0, e1⟩ := (hcell k hlt).keep hbw
      have HT := hide (ordL_take hlt)
      have HL := hide (ordL_len l k (by omega))
      clear hcell hd hbw
      generalize l[k] = x at *
      go_wp2_with fail
      refine (put_any _ _ x _ HO.out.itms (by have := HL.out; omega)).mono ?_
      rintro e w1 ⟨v1, rfl, ho, hb⟩
      have HN : Hid (OwnI w.heap.size w1 v1 (ordL (l.take (k + 1)))) := by rw [HT.out]; exact own_mono ho HW.out.size
      have H1 : Hid (Below w.heap.size w w1) := HW.out.trans (hb.mono HW.out.size)
      clear ho hb
      go_wp2_with fail
      go_roundg (gk - 1)
      case measure => omega
      case rel => exact ⟨H1.out, k + 1, by omega, by go_num, HN.out⟩
    · have hkl : k = l.length := by omega
      subst hkl
      rw [List.take_length] at HO
      clear hd hbw
      go_wp2_with fail
      go_ret
      exact ⟨_, rfl, HO.out, HW.out⟩
end Go.Proofs.Ytopdheombgajlaa
