/-
  Rows of numbers: eqIntS, markIntS, heldIntS.
-/
import Derived.Test.YtppffmnokmhcoaaKBase
import Derived.Deep.LoopGhost
import Derived.OwnWalk
import Derived.Deep.AppendLies
import Derived.Laws.OwnMore
import Derived.BigQuiet
import Derived.Deep.QuietTactic
set_option linter.all false
namespace Go.Proofs.Ytppffmnokmhcoaa
open Go.RowKit
/-- a row of numbers that the call owns -/
def OwnN (B : Nat) (w : World) (v : Value) (ns : List Int) : Prop := w.ownsRow B 3 1 v ns.length (ns.map (Value.int .i64))
/-- a row of numbers that can be read -/
def Nums (w : World) (v : Value) (ns : List Int) : Prop :=
  ∃ a cap, v = .slice a ns.length cap ∧ ns.length ≤ cap ∧ cap ≤ 9223372036854775807 ∧ (ns = [] ∨ ∃ b off, a = some ⟨b, off, none⟩ ∧ b < w.heap.size ∧ ∀ i (h : i < ns.length), w.cell? ⟨b, off + i, none⟩ = some (.int .i64 ns[i]))
theorem Nums.keep {w w' : World} {v : Value} {ns : List Int} (h : Nums w v ns) (hb : Below w.heap.size w w') : Nums w' v ns := by
  obtain ⟨a, cap, hv, h1, h2, h3⟩ := h
  refine ⟨a, cap, hv, h1, h2, ?_⟩
  rcases h3 with h3 | ⟨b, off, e, hlt, hc⟩
  · exact .inl h3
  · exact .inr ⟨b, off, e, Nat.lt_of_lt_of_le hlt hb.size, fun i hi => (hb.cell (p := ⟨b, off + i, none⟩) hlt).trans (hc i hi)⟩
theorem OwnN.keep {B : Nat} {w w' : World} {v : Value} {ns : List Int} (h : OwnN B w v ns) (hb : Below w.heap.size w w') : OwnN B w' v ns := by
  refine World.ownsRow.kept h (grown_below hb none) ?_
  cases hv : v.ownBlock <;> simp
theorem infoN : (Try.prog.info? 3).map (fun i => (i.zero, i.size, i.bytes)) = some (some (.int .i64 0), 1, 8) := by kernel_rfl
/-- a row of numbers that begins a block -/
def RowN (g : Nat) (w : World) (v : Value) (ns : List Int) : Prop := ∃ a cap, v = .slice a ns.length cap ∧ ns.length ≤ cap ∧ cap ≤ 9223372036854775807 ∧
  (ns = [] ∨ a = some ⟨g, 0, none⟩ ∧ ∃ cs, w.heap[g]? = some (.cells cs 3 (0, 0)) ∧ ns.length ≤ cs.size ∧ ∀ j (hj : j < ns.length), cs[j]? = some (.int .i64 ns[j]))
theorem RowN.kept {g h : Nat} {w w' : World} {v : Value} {l : List Int} (k : RowN g w v l) (hg : w.grownBy w' (some h)) (hne : l ≠ [] → g ≠ h) : RowN g w' v l := by
  obtain ⟨a, cap, hv, h1, h2, h3⟩ := k
  refine ⟨a, cap, hv, h1, h2, ?_⟩
  rcases h3 with h3 | ⟨ha, cs, hb, hs, hc⟩
  · exact .inl h3
  · by_cases hl : l = []
    · exact .inl hl
    · exact .inr ⟨ha, cs, (hg.block g (lt_block hb) (fun e => hne hl (by injection e))).trans hb, hs, hc⟩
theorem RowN.keep {g : Nat} {w w' : World} {v : Value} {l : List Int} (k : RowN g w v l) (hb : Below w.heap.size w w') : RowN g w' v l := by
  obtain ⟨a, cap, hv, h1, h2, h3⟩ := k
  refine ⟨a, cap, hv, h1, h2, ?_⟩
  rcases h3 with h3 | ⟨ha, cs, hk, hs, hc⟩
  · exact .inl h3
  · exact .inr ⟨ha, cs, blk_own hb hk, hs, hc⟩
theorem RowN.nums {g : Nat} {w : World} {v : Value} {l : List Int} (k : RowN g w v l) : Nums w v l := by
  obtain ⟨a, cap, rfl, h1, h2, h3⟩ := k
  rcases h3 with rfl | ⟨rfl, cs, hb, hs, hc⟩
  · exact ⟨a, cap, rfl, h1, h2, .inl rfl⟩
  · exact ⟨_, cap, rfl, h1, h2, .inr ⟨g, 0, rfl, lt_block hb, fun i hi => by rw [cell_block hb, Nat.zero_add]; exact hc i hi⟩⟩
theorem OwnN.row {B : Nat} {w : World} {v : Value} {l : List Int} (h : OwnN B w v l) : ∃ g, B ≤ g ∧ (l ≠ [] → g < w.heap.size) ∧ RowN g w v l := by
  unfold OwnN at h
  have h' := h
  rcases h.2 with ⟨rfl, hn⟩ | ⟨g, cap, cur, rfl, hb, hg, hnc, hcm, hcs, htake⟩
  · have : l = [] := List.length_eq_zero_iff.1 hn
    subst this
    exact ⟨B, Nat.le_refl _, fun hlt => absurd rfl hlt, none, 0, rfl, by simp, by omega, .inl rfl⟩
  · refine ⟨g, hb, fun _ => lt_block hg, _, cap, rfl, hnc, by unfold maxLen at hcm; omega, .inr ⟨rfl, cur, hg, by rw [hcs]; omega, fun j hj => ?_⟩⟩
    rw [← cell_block hg j, World.ownsRow.cellAt h' j (by omega)]
    simp [hj]
theorem OwnN.nums {B : Nat} {w : World} {v : Value} {l : List Int} (h : OwnN B w v l) : Nums w v l := by
  obtain ⟨g, -, -, hr⟩ := h.row
  exact hr.nums
set_option maxHeartbeats 4000000 in
theorem eqIntS_same (v v' : Value) (ns : List Int) (w : World) (h : Nums w v ns) (h' : Nums w v' ns) :
    Calls Try.prog 29 #[v, v'] w fun x w' => x = .returned (.bool true) ∧ Below w.heap.size w w' := by
  obtain ⟨a, cap, rfl, hl, hcap, hd⟩ := h
  obtain ⟨a', cap', rfl, hl', hcap', hd'⟩ := h'
  go_enter Try.func29, Try.ntmps29
  go_wp2_with fail
  go_loopg [5] ns.length (fun gk s5 wr => Below w.heap.size w wr ∧ ∃ k : Nat, k + gk = ns.length ∧ s5 = .int .i64 (k : Int))
  case atStart => exact ⟨Below.refl _ _, 0, by omega, rfl⟩
  case round =>
    obtain ⟨hbw, k, hk, rfl⟩ := hrel
    have HW := hide hbw
    by_cases hlt : k < ns.length
    · obtain ⟨b, off, rfl, hbb, hcell⟩ := hd.resolve_left (by rintro rfl; simp at hlt)
      obtain ⟨b', off', rfl, hbb', hcell'⟩ := hd'.resolve_left (by rintro rfl; simp at hlt)
      have e0 := (hbw.cell (p := ⟨b, off + k, none⟩) hbb).trans (hcell k hlt)
      have f0 := (hbw.cell (p := ⟨b', off' + k, none⟩) hbb').trans (hcell' k hlt)
      clear hcell hd hcell' hd' hbw
      generalize ns[k] = e at *
      go_wp2_with fail
      go_quiet (fail)
      go_wp2_with fail
      go_roundg (gk - 1)
      case measure => omega
      case rel => exact ⟨below_drewN HW.out _, k + 1, by omega, by go_num⟩
    · clear hd hd' hbw
      go_wp2_with fail
      go_ret
      exact ⟨rfl, HW.out⟩
def markN (m n : Nat) : List Int := (List.range n).map fun i => ((m + i : Nat) : Int)
theorem markN_len (m n : Nat) : (markN m n).length = n := by simp [markN]
theorem markN_at {m n k : Nat} (h : k < (markN m n).length) : (markN m n)[k] = ((m + k : Nat) : Int) := by simp [markN]
theorem nums_step {cs : Array Value} {m n k : Nat} (h : ∀ j, j < k → cs[j]? = some (.int .i64 ((m + j : Nat) : Int))) (hs : n ≤ cs.size) (hk : k < n) : ∀ j, j < k + 1 → (cs.setIfInBounds k (.int .i64 ((m + k : Nat) : Int)))[j]? = some (.int .i64 ((m + j : Nat) : Int)) := by
  intro j hj
  by_cases hjk : j = k
  · subst hjk; rw [Array.getElem?_setIfInBounds_self_of_lt (by omega)]
  · rw [Array.getElem?_setIfInBounds_ne (by omega)]; exact h j (by omega)
def MarkNRet (w : World) (m g : Nat) (v : Value) (n : Nat) (e : Ending) (w' : World) : Prop :=
  e = .returned (.int .i64 ((m + n : Nat) : Int)) ∧ w.grownBy w' (some g) ∧ RowN g w' v (markN m n)
set_option maxHeartbeats 4000000 in
theorem markIntS_any (g m : Nat) (v : Value) (l : List Int) (w : World) (hr : RowN g w v l) (h0 : 1 ≤ m) (h1 : m + l.length ≤ 9000000) :
    Calls Try.prog 32 #[v, .int .i64 (m : Int)] w (MarkNRet w m g v l.length) := by
  obtain ⟨a, cap, rfl, hn, hc, hd⟩ := hr
  obtain ⟨n, hln⟩ : ∃ n, l.length = n := ⟨_, rfl⟩
  have hd' : n = 0 ∨ a = some ⟨g, 0, none⟩ ∧ ∃ cs, w.heap[g]? = some (.cells cs 3 (0, 0)) ∧ n ≤ cs.size := by
    rcases hd with rfl | ⟨ha, cs, hb, hs, -⟩
    · exact .inl hln.symm
    · exact .inr ⟨ha, cs, hb, by omega⟩
  rw [hln] at hn h1 ⊢
  clear hd hln
  have ML := markN_len m n
  by_cases hn0 : n = 0
  · subst hn0
    go_enter Try.func32, Try.ntmps32
    go_wp2_with fail
    go_loopg [1, 5] 0 (fun gk s1 s5 wr => wr = w ∧ s1 = .int .i64 (m : Int) ∧ s5 = .int .i64 0)
    case atStart => exact ⟨rfl, rfl, rfl⟩
    case round =>
      obtain ⟨rfl, rfl, rfl⟩ := hrel
      go_wp2_with fail
      go_ret
      exact ⟨rfl, grown_below (Below.refl _ _) _, a, cap, by rw [markN_len], by rw [markN_len]; omega, hc, .inl rfl⟩
  · obtain ⟨rfl, cs, hb, hs⟩ := hd'.resolve_left hn0
    have HG := hide hb
    clear hb hd' ML
    go_enter Try.func32, Try.ntmps32
    go_wp2_with fail
    go_loopg [1, 5] n (fun gk s1 s5 wr => w.grownBy wr (some g) ∧ ∃ (k p : Nat) (cr : Array Value), k + gk = n ∧ Hid (p = m + k) ∧ s1 = .int .i64 (p : Int) ∧ s5 = .int .i64 (k : Int) ∧ cr.size = cs.size ∧ wr.heap[g]? = some (.cells cr 3 (0, 0)) ∧ ∀ j, j < k → cr[j]? = some (.int .i64 ((m + j : Nat) : Int)))
    case atStart => exact ⟨grown_below (Below.refl _ _) _, 0, m, cs, by omega, hide (by omega), rfl, rfl, rfl, HG.out, fun j hj => by omega⟩
    case round =>
      obtain ⟨hgw, k, p, cr, hk, hp, rfl, rfl, hsz, hblk, harr⟩ := hrel
      have HW := hide hgw
      have HB := hide hblk
      have HA := hide harr
      have hgr : g < wr.heap.size := lt_block hblk
      clear hgw hblk harr
      by_cases hlt : k < n
      · have hp1 : 1 ≤ p := by have := hp.out; omega
        have hp2 : p ≤ 8999999 := by have := hp.out; omega
        have HS := hide (nums_step HA.out (show n ≤ cr.size by omega) hlt)
        rw [← hp.out] at HS
        obtain ⟨u0, x0⟩ : ∃ u, wr.cell? ⟨g, k, none⟩ = some u := ⟨_, by rw [cell_block HB.out]; exact Array.getElem?_eq_getElem (by omega)⟩
        have f0 := froz_block HB.out k
        go_wp2_with fail
        go_roundg (gk - 1)
        case measure => omega
        case rel => exact ⟨grown_trans HW.out (grown_setCell _ _ _ _), k + 1, p + 1, _, by omega, hide (by have := hp.out; omega), by go_num, by go_num, by simp [hsz], set_block HB.out _ _, HS.out⟩
      · have HE : Hid (k = n) := hide (by omega)
        go_wp2_with fail
        go_ret
        have hkl := HE.out
        subst hkl
        exact ⟨by rw [hp.out]; rfl, HW.out, _, cap, by rw [markN_len], by rw [markN_len]; exact hn, hc, .inr ⟨rfl, cr, HB.out, by rw [markN_len]; omega, fun j hj => by rw [markN_at]; exact HA.out j (by rw [markN_len] at hj; exact hj)⟩⟩
set_option maxHeartbeats 4000000 in
theorem heldIntS_any (g n m : Nat) (v : Value) (w : World) (hr : RowN g w v (markN m n)) (h0 : 1 ≤ m) (h1 : m + n ≤ 9000000) :
    Calls Try.prog 33 #[v, .int .i64 (m : Int)] w (fun e w' => e = .returned (.int .i64 ((m + n : Nat) : Int)) ∧ Below w.heap.size w w') := by
  obtain ⟨a, cap, rfl, hn, hc, hd⟩ := hr
  rw [markN_len] at hn
  rw [markN_len]
  go_enter Try.func33, Try.ntmps33
  go_wp2_with fail
  go_loopg [1, 5] n (fun gk s1 s5 wr => Below w.heap.size w wr ∧ ∃ (k p : Nat), k + gk = n ∧ Hid (p = m + k) ∧ s1 = .int .i64 (p : Int) ∧ s5 = .int .i64 (k : Int))
  case atStart => exact ⟨Below.refl _ _, 0, m, by omega, hide (by omega), rfl, rfl⟩
  case round =>
    obtain ⟨hbw, k, p, hk, hp, rfl, rfl⟩ := hrel
    have HW := hide hbw
    by_cases hlt : k < n
    · obtain ⟨rfl, cs, hb, -, harr⟩ := hd.resolve_left (by intro h; have := congrArg List.length h; rw [markN_len] at this; simp at this; omega)
      have e0 := harr k (by rw [markN_len]; exact hlt)
      rw [markN_at] at e0
      rw [← hp.out] at e0
      have hp1 : 1 ≤ p := by have := hp.out; omega
      have hp2 : p ≤ 8999999 := by have := hp.out; omega
      have hbr := (hbw.block g (lt_block hb)).trans hb
      have lb := lt_block hbr
      rw [← cell_block hbr] at e0
      clear hd harr hb hbr hbw
      go_wp2_with fail
      try (go_quiet (fail); go_wp2_with fail)
      go_roundg (gk - 1)
      case measure => omega
      case rel => exact ⟨by first | exact HW.out | exact below_drewN HW.out _, k + 1, p + 1, by omega, hide (by have := hp.out; omega), by go_num, by go_num⟩
    · have HE : Hid (k = n) := hide (by omega)
      clear hd hbw
      go_wp2_with fail
      go_ret
      have hkl := HE.out
      subst hkl
      exact ⟨by rw [hp.out]; rfl, HW.out⟩
end Go.Proofs.Ytppffmnokmhcoaa
