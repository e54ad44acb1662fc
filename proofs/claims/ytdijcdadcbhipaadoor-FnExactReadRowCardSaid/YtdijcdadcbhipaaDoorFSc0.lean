/-
  copyColumns of the specification.
-/
import Derived.Test.YtdijcdadcbhipaaDoorFCh
import Derived.Test.YtdijcdadcbhipaaDoorFR2
set_option linter.all false
namespace Go.Proofs.YtdijcdadcbhipaaDoor
open Go.RowKit
set_option maxHeartbeats 2000000 in
theorem scopyC_any (v : Value) (l : List RCol) (w : World) (h : Recs cEnc 4 w v l) (hn : l.length ≤ 1048576) :
    Calls Tryd.prog 89 #[v] w fun e w' => ∃ v', e = .returned v' ∧ OwnC w.heap.size w' v' l ∧ Below w.heap.size w w' := by
  have HR := hide (h.keep (below_box w (.cells #[] 27)))
  have HO : Hid (OwnC w.heap.size (w.alloc (.cells #[] 27)) (.slice (some ⟨w.heap.size, 0, none⟩) 0 0) []) := own_lit (Nat.le_refl _)
  obtain ⟨a, cap, rfl, hl, hcap⟩ := h.shape
  clear h
  go_enter Tryd.func89, Tryd.ntmps89
  go_wp2_with (at_builtin; refine wpList_appR (enc := cEnc) (k := 4) (by decide) cEnc_len cEnc_one rfl (.tmp 3) (.tmp 4) 23 27 rfl 40 (by decide) Tryd.underlying23 _ infoC rfl w.heap.size (.slice (some ⟨w.heap.size, 0, none⟩) 0 0) [] rfl HO.out (by simp) (.slice a l.length cap) l rfl HR.out hn (by simp) ?_)
  intro v' w1 hown hgrow
  have HF := hide hown
  have HB : Hid (Below w.heap.size w w1) := ((Below.refl _ w).alloc (Nat.le_refl _) _).grown hgrow (by simp) (by intro k hk; simp [Value.ownBlock] at hk; omega)
  clear hown hgrow
  go_wp2_with fail
  go_ret
  exact ⟨v', rfl, HF.out, HB.out⟩
end Go.Proofs.YtdijcdadcbhipaaDoor
