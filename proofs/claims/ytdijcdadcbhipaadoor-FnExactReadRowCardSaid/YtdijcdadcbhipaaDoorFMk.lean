/-
  The marks of the exact laws: written into all cells of a row, and found there again.
-/
import Derived.Test.YtdijcdadcbhipaaDoorFTo
import Derived.Laws.IdiomStrings
import Derived.RegionCalls
import Derived.Deep.RegionLaw
import Derived.Deep.DeepCutAuto
set_option linter.all false
namespace Go.Proofs.YtdijcdadcbhipaaDoor
open Go.RowKit
/-- the digits of a number ahead of a text -/
def mkD (n : Nat) (s : ByteArray) : ByteArray := if h : n = 0 then s else mkD (n / 10) (⟨#[UInt8.ofNat (48 + n % 10)]⟩ ++ s)
termination_by n
decreasing_by omega
theorem mkD_zero (s : ByteArray) : mkD 0 s = s := by rw [mkD]; simp
theorem mkD_step {n : Nat} (h : n ≠ 0) (s : ByteArray) : mkD n s = mkD (n / 10) (⟨#[UInt8.ofNat (48 + n % 10)]⟩ ++ s) := by rw [mkD, dif_neg h]
theorem conv_dig (m : Nat) (W : World) : (convert 22 9 (.slice (some ⟨W.heap.size, 0, none⟩) 1 1)).run Tryd.prog (W.alloc (.cells #[.int .u8 (48 + (m : Int) % 10)] 5)) = .ok (.string ⟨#[UInt8.ofNat (48 + m % 10)]⟩) (W.alloc (.cells #[.int .u8 (48 + (m : Int) % 10)] 5)) := by
  refine run_convert_bytes_back _ _ _ 5 ⟨W.heap.size, 0, none⟩ 1 [UInt8.ofNat (48 + m % 10)] Tryd.underlying22 Tryd.underlying5 Tryd.underlying9 ?_
  intro j hj
  have h0 : j = 0 := by simpa using hj
  subst h0
  have : (UInt8.ofNat (48 + m % 10)).toNat = 48 + m % 10 := by simp; omega
  rw [show (⟨W.heap.size, 0, none⟩ : Addr).add 0 = ⟨W.heap.size, 0, none⟩ from rfl, cell_block (blk_alloc W _)]
  simp only [List.getElem_cons_zero, this]
  simp
def mkT (n : Nat) : ByteArray := ⟨#[109]⟩ ++ mkD n ⟨#[]⟩
set_option maxHeartbeats 2000000 in
theorem markText_any (n : Nat) (h0 : 1 ≤ n) (h1 : n ≤ 9000000) (w : World) :
    Calls Tryd.prog 65 #[.int .i64 (n : Int)] w fun e w' => e = .returned (.string (mkT n)) ∧ Below w.heap.size w w' := by
  go_enter Tryd.func65, Tryd.ntmps65
  go_wp2_with fail
  go_loopg [0, 3] n (fun gk s0 s3 wr => Below w.heap.size w wr ∧ ∃ (m : Nat) (s : ByteArray), m = gk ∧ s0 = .int .i64 (m : Int) ∧ s3 = .string s ∧ m ≤ 9000000 ∧ mkD m s = mkD n ⟨#[]⟩ ∧ ∃ j : Nat, m < 10 ^ j ∧ s.size + j ≤ 8)
  case atStart => exact ⟨Below.refl _ _, n, ⟨#[]⟩, rfl, rfl, rfl, h1, rfl, 7, by omega, by decide⟩
  case round =>
    obtain ⟨hbw, m, s, rfl, rfl, rfl, hm, hD, j, hj, hz⟩ := hrel
    have HW := hide hbw
    have HD := hide hD
    have HJ := hide hj
    clear hbw hD hj
    by_cases hlt : 0 < m
    · have hcv := conv_dig m
      have hsz : s.size ≤ 1000 := by omega
      have hb : ((⟨#[UInt8.ofNat (48 + m % 10)]⟩ : ByteArray)).size = 1 := rfl
      generalize hB : (⟨#[UInt8.ofNat (48 + m % 10)]⟩ : ByteArray) = B at hcv hb
      have HB := hide hB
      clear hB
      go_wp2_with fail
      clear hcv
      go_roundg (m / 10)
      case measure => omega
      case rel =>
        obtain ⟨j', rfl⟩ : ∃ j', j = j' + 1 := ⟨j - 1, by
          have : j ≠ 0 := by rintro rfl; have := HJ.out; simp at this; omega
          omega⟩
        have h10 : m / 10 < 10 ^ j' := Nat.div_lt_of_lt_mul (by have := HJ.out; rw [Nat.pow_succ, Nat.mul_comm] at this; exact this)
        exact ⟨HW.out.alloc HW.out.size _, m / 10, B ++ s, rfl, by go_num, rfl, by omega, by rw [← HB.out]; exact (mkD_step (by omega) s).symm.trans HD.out, j', h10, by rw [ByteArray.size_append]; omega⟩
    · have hm0 : m = 0 := by omega
      subst hm0
      have HE := hide ((mkD_zero s).symm.trans HD.out)
      clear HD
      go_wp2_with fail
      go_ret
      exact ⟨by unfold mkT; rw [← HE.out]; rfl, HW.out⟩
theorem markText_at (z : Int) (n : Nat) (hz : z = (n : Int)) (h0 : 1 ≤ n) (h1 : n ≤ 9000000) (w : World) :
    Calls Tryd.prog 65 #[.int .i64 z] w fun e w' => e = .returned (.string (mkT n)) ∧ Below w.heap.size w w' := by
  subst hz; exact markText_any n h0 h1 w
def markV (m n : Nat) : List RVal := (List.range n).map fun i => ⟨((m + 3 * i : Nat) : Int), ((m + 3 * i + 1 : Nat) : Int), mkT (m + 3 * i + 2)⟩
def markC (m n : Nat) : List RCol := (List.range n).map fun i => ⟨((m + 4 * i : Nat) : Int), ⟨((m + 4 * i + 1 : Nat) : Int), ((m + 4 * i + 2 : Nat) : Int), mkT (m + 4 * i + 3)⟩⟩
def markH (m n : Nat) : List RChg := (List.range n).map fun i => ⟨((m + 6 * i : Nat) : Int), ((m + 6 * i + 1 : Nat) : Int), ⟨((m + 6 * i + 2 : Nat) : Int), ⟨((m + 6 * i + 3 : Nat) : Int), ((m + 6 * i + 4 : Nat) : Int), mkT (m + 6 * i + 5)⟩⟩⟩
theorem markV_len (m n : Nat) : (markV m n).length = n := by simp [markV]
theorem markC_len (m n : Nat) : (markC m n).length = n := by simp [markC]
theorem markH_len (m n : Nat) : (markH m n).length = n := by simp [markH]
theorem below_own {a b c : World} {row : Option Nat} (h : Below a.heap.size a b) (k : b.grownBy c row) (hj : ∀ j, row = some j → a.heap.size ≤ j) : Below a.heap.size a c := h.grown k h.size hj
/-- a row whose owned cells are known whole -/
theorem OwnR.cells {α : Type} {enc : α → List Value} {K : Nat} {e : TypeId} {B : Nat} {w : World} {v : Value} {l : List α} (h : OwnR enc K e B w v l) (hl : l ≠ []) : ∃ g c cs, v = .slice (some ⟨g, 0, none⟩) l.length c ∧ B ≤ g ∧ w.heap[g]? = some (.cells cs e (0, 0)) ∧ cs.size = c * K ∧ l.length ≤ c ∧ c ≤ 9223372036854775807 := by
  rcases h.2 with ⟨rfl, h0⟩ | ⟨g, cap, cur, rfl, hB, hg, h1, h2, h3, _⟩
  · exact absurd (List.length_eq_zero_iff.1 h0) hl
  · exact ⟨g, cap, cur, rfl, hB, hg, h3, h1, h2⟩
theorem own_marked {α : Type} {enc : α → List Value} {K : Nat} (hK : 0 < K) (he : ∀ x, (enc x).length = K) {w : World} {g c n : Nat} {cs : Array Value} {t : TypeId} {l : List α} {B : Nat} (hB : B ≤ g) (h : w.heap[g]? = some (.cells cs t (0, 0))) (ha : ArrR enc K cs l l.length) (hs : cs.size = c * K) (hlc : l.length ≤ c) (hc : c ≤ 9223372036854775807) (hn : l.length = n) :
    OwnR enc K t B w (.slice (some ⟨g, 0, none⟩) n c) l := by
  subst hn
  have hck : l.length * K ≤ c * K := Nat.mul_le_mul_right _ hlc
  refine own_of hB h hs (by unfold maxLen; omega) hlc (flat_len he l) fun j hj => ?_
  rw [flat_len he] at hj
  obtain ⟨i, q, hi, hq, rfl⟩ := flat_split hK l.length hj
  rw [flat_at he l i hi q hq]
  have hlt : q < (enc l[i]).length := by rw [he]; exact hq
  rw [List.getElem?_eq_getElem hlt]
  exact ha i hi hi q _ (List.getElem?_eq_getElem hlt)
set_option maxHeartbeats 8000000 in
set_option maxRecDepth 100000 in
theorem markColumnS_blk (g n c m : Nat) (cs0 : Array Value) (w : World) (hb : w.heap[g]? = some (.cells cs0 27 (0, 0))) (hs : cs0.size = c * 4) (hn : n ≤ c) (hc : c ≤ 9223372036854775807) (h0 : 1 ≤ m) (h1 : m + 4 * n ≤ 9000000) :
    Calls Tryd.prog 25 #[.slice (some ⟨g, 0, none⟩) n c, .int .i64 (m : Int)] w fun e w' => e = .returned (.int .i64 ((m + 4 * n : Nat) : Int)) ∧ w.grownBy w' (some g) ∧ ∃ cs, w'.heap[g]? = some (.cells cs 27 (0, 0)) ∧ cs.size = c * 4 ∧ ArrR cEnc 4 cs (markC m n) n := by
  have HB0 := hide hb
  have hgl : g < w.heap.size := lt_block hb
  clear hb
  go_enter Tryd.func25, Tryd.ntmps25
  go_wp2_with fail
  go_loopg [1, 5] n (fun gk s1 s5 wr => w.grownBy wr (some g) ∧ ∃ (k : Nat) (cs : Array Value), k + gk = n ∧ s1 = .int .i64 ((m + 4 * k : Nat) : Int) ∧ s5 = .int .i64 (k : Int) ∧ cs.size = c * 4 ∧ wr.heap[g]? = some (.cells cs 27 (0, 0)) ∧ ArrR cEnc 4 cs (markC m n) k)
  case atStart => exact ⟨World.grownBy.refl _ _, 0, cs0, by omega, rfl, rfl, hs, HB0.out, fun j hj => by omega⟩
  case round =>
    clear HB0
    obtain ⟨hgw, k, cs, hk, rfl, rfl, hsz, hblk, harr⟩ := hrel
    have HG := hide hgw
    have HB := hide hblk
    have HA := hide harr
    have HZ := hide hsz
    have hgr : g < wr.heap.size := lt_block hblk
    clear hgw hblk harr hsz
    by_cases hlt : k < n
    · have hkc : k * 4 + 4 ≤ c * 4 := by omega
      have hml : k < (markC m n).length := by rw [markC_len]; exact hlt
      have hme : (markC m n)[k] = ⟨((m + 4 * k : Nat) : Int), ⟨((m + 4 * k + 1 : Nat) : Int), ((m + 4 * k + 2 : Nat) : Int), mkT (m + 4 * k + 3)⟩⟩ := by simp [markC]
      have HA' := hide (HA.out.step (by decide) cEnc_len hml (by rw [markC_len, HZ.out]; omega))
      rw [hme] at HA'
      clear HA hme
      obtain ⟨M, hM⟩ : ∃ M : Nat, M = m + 4 * k := ⟨_, rfl⟩
      rw [← hM] at HA' ⊢
      have hM1 : 1 ≤ M := by omega
      have hM2 : M + 4 ≤ 9000000 := by omega
      have hMn := hide (show m + 4 * (k + 1) = M + 4 by omega)
      clear hM
      have x0 : ∃ u, wr.cell? ⟨g, k * 4, none⟩ = some u := ⟨_, by rw [cell_block HB.out]; exact Array.getElem?_eq_getElem (by rw [HZ.out]; omega)⟩
      obtain ⟨u0, x0⟩ := x0
      have z0 := froz_block HB.out (k * 4)
      have x1 : ∃ u, wr.cell? ⟨g, k * 4 + 1, none⟩ = some u := ⟨_, by rw [cell_block HB.out]; exact Array.getElem?_eq_getElem (by rw [HZ.out]; omega)⟩
      obtain ⟨u1, x1⟩ := x1
      have z1 := froz_block HB.out (k * 4 + 1)
      have x2 : ∃ u, wr.cell? ⟨g, k * 4 + 2, none⟩ = some u := ⟨_, by rw [cell_block HB.out]; exact Array.getElem?_eq_getElem (by rw [HZ.out]; omega)⟩
      obtain ⟨u2, x2⟩ := x2
      have z2 := froz_block HB.out (k * 4 + 2)
      go_wp2_with fail
      with_reducible refine (markText_at _ (M + 3) (by go_num) (by omega) (by omega) _).mono ?_
      rintro e w2 ⟨rfl, hb2⟩
      generalize hT : mkT (M + 3) = TX at *
      have B2 := hide (blk_own hb2 (set_block (set_block (set_block HB.out _ _) _ _) _ _))
      have G2 : Hid (w.grownBy w2 (some g)) := grown_trans (grown_trans (grown_trans (grown_trans HG.out (grown_setCell _ _ _ _)) (grown_setCell _ _ _ _)) (grown_setCell _ _ _ _)) (grown_below hb2 _)
      have y3 : ∃ u, w2.cell? ⟨g, k * 4 + 3, none⟩ = some u := ⟨_, by rw [cell_block B2.out]; exact Array.getElem?_eq_getElem (by simp [HZ.out]; omega)⟩
      obtain ⟨u3, y3⟩ := y3
      have z3 := froz_block B2.out (k * 4 + 3)
      clear hb2 hT
      go_wp2_with fail
      go_roundg (gk - 1)
      case measure => omega
      case rel => exact ⟨grown_trans G2.out (grown_setCell _ _ _ _), k + 1, _, by omega, by rw [hMn.out]; go_num, by go_num, by simp [HZ.out], set_block B2.out _ _, HA'.out⟩
    · have hkl : k = n := by omega
      subst hkl
      go_wp2_with fail
      go_ret
      exact ⟨rfl, HG.out, cs, HB.out, HZ.out, HA.out⟩
theorem markColumnS_any (B : Nat) (v : Value) (l : List RCol) (m : Nat) (w : World) (h : OwnR cEnc 4 27 B w v l) (h0 : 1 ≤ m) (h1 : m + 4 * l.length ≤ 9000000) :
    Calls Tryd.prog 25 #[v, .int .i64 (m : Int)] w fun e w' => e = .returned (.int .i64 ((m + 4 * l.length : Nat) : Int)) ∧ w.grownBy w' v.ownBlock ∧ OwnR cEnc 4 27 B w' v (markC m l.length) := by
  by_cases hl : l = []
  · subst hl
    obtain ⟨a, c, rfl, hc1, hc2⟩ := own_slc h
    have HO : Hid (OwnR cEnc 4 27 B w (.slice a 0 c) (markC m 0)) := h
    clear h
    go_enter Tryd.func25, Tryd.ntmps25
    go_wp2_with fail
    go_loopg [1, 5] 0 (fun gk s1 s5 wr => wr = w ∧ gk = 0 ∧ s1 = .int .i64 (m : Int) ∧ s5 = .int .i64 0)
    case atStart => exact ⟨rfl, rfl, rfl, rfl⟩
    case round =>
      obtain ⟨rfl, rfl, rfl, rfl⟩ := hrel
      go_wp2_with fail
      go_ret
      exact ⟨rfl, World.grownBy.refl _ _, HO.out⟩
  · obtain ⟨g, c, cs, rfl, hB, hg, hs, hlc, hc⟩ := h.cells hl
    refine (markColumnS_blk g l.length c m cs w hg hs hlc hc h0 h1).mono ?_
    rintro e w' ⟨rfl, hgr, cs', hg', hs', ha⟩
    have ha' : ArrR cEnc 4 cs' (markC m l.length) (markC m l.length).length := by rw [markC_len]; exact ha
    exact ⟨rfl, hgr, own_marked (by decide) cEnc_len hB hg' ha' hs' (by rw [markC_len]; exact hlc) hc (markC_len _ _)⟩
set_option maxHeartbeats 8000000 in
set_option maxRecDepth 100000 in
theorem heldColumnS_any (v : Value) (m n : Nat) (w : World) (h : Recs cEnc 4 w v (markC m n)) (h0 : 1 ≤ m) (h1 : m + 4 * n ≤ 9000000) :
    Calls Tryd.prog 26 #[v, .int .i64 (m : Int)] w fun e w' => e = .returned (.int .i64 ((m + 4 * n : Nat) : Int)) ∧ Below w.heap.size w w' := by
  obtain ⟨a, cap, rfl, hl, hcap, -, hd⟩ := h
  rw [markC_len] at *
  go_enter Tryd.func26, Tryd.ntmps26
  go_wp2_with fail
  go_loopg [1, 5] n (fun gk s1 s5 wr => Below w.heap.size w wr ∧ ∃ k : Nat, k + gk = n ∧ s1 = .int .i64 ((m + 4 * k : Nat) : Int) ∧ s5 = .int .i64 (k : Int))
  case atStart => exact ⟨Below.refl _ _, 0, by omega, rfl, rfl⟩
  case round =>
    obtain ⟨hbw, k, hk, rfl, rfl⟩ := hrel
    have HW := hide hbw
    by_cases hlt : k < n
    · have hml : k < (markC m n).length := by rw [markC_len]; exact hlt
      obtain ⟨b, off, rfl, hbb, hcell⟩ := hd.resolve_left (by intro h; rw [h] at hml; simp at hml)
      have hme : (markC m n)[k] = ⟨((m + 4 * k : Nat) : Int), ⟨((m + 4 * k + 1 : Nat) : Int), ((m + 4 * k + 2 : Nat) : Int), mkT (m + 4 * k + 3)⟩⟩ := by simp [markC]
      have hc := hcell k hml
      rw [hme] at hc
      clear hd hcell hme
      obtain ⟨M, hM⟩ : ∃ M : Nat, M = m + 4 * k := ⟨_, rfl⟩
      rw [← hM] at hc ⊢
      have hM1 : 1 ≤ M := by omega
      have hM2 : M + 4 ≤ 9000000 := by omega
      have hMn := hide (show m + 4 * (k + 1) = M + 4 by omega)
      clear hM
      have e := at4 (fun j u hu => (hbw.cell (p := ⟨b, _, none⟩) hbb).trans (hc j u hu))
      have e0 : wr.cell? ⟨b, off + k * 4, none⟩ = some (.int .i64 (M : Int)) := e.1
      have e1 : wr.cell? ⟨b, off + k * 4 + 1, none⟩ = some (.int .i64 ((M : Int) + 1)) := e.2.1
      have e2 : wr.cell? ⟨b, off + k * 4 + 2, none⟩ = some (.int .i64 ((M : Int) + 2)) := e.2.2.1
      have e3 : wr.cell? ⟨b, off + k * 4 + 3, none⟩ = some (.string (mkT (M + 3))) := e.2.2.2
      clear e
      have f := fun z : BW wr => bw_cell (p := ⟨b, off + k * 4 + 3, none⟩) (Nat.lt_of_lt_of_le hbb hbw.size) e3 z
      clear hbw hc
      go_upto_region 13 with fail
      generalize hT : mkT (M + 3) = TX at *
      have HT := hide hT
      clear hT e3
      refine wp_region_bw (by kernel_rfl) (by kernel_rfl) ?_
      repeat (go_big_quiet_step (first | (go_at_call 65; with_reducible exact bw_of ((markText_at _ (M + 3) (by go_num) (by omega) (by omega) _).mono (fun e' w' h => ⟨by rw [h.1, HT.out], h.2⟩)))))
      refine wpQuiet_nil ?_
      rintro _ ⟨z, rfl⟩
      have H1 : Hid (Below w.heap.size w z.v) := HW.out.trans (z.h.mono HW.out.size)
      go_wp2_with fail
      go_roundg (gk - 1)
      case measure => omega
      case rel => exact ⟨H1.out, k + 1, by omega, by rw [hMn.out]; go_num, by go_num⟩
    · have hkl : k = n := by omega
      subst hkl
      clear hd hbw
      go_wp2_with fail
      go_ret
      exact ⟨rfl, HW.out⟩
set_option maxHeartbeats 8000000 in
set_option maxRecDepth 100000 in
theorem markValueS_blk (g n c m : Nat) (cs0 : Array Value) (w : World) (hb : w.heap[g]? = some (.cells cs0 25 (0, 0))) (hs : cs0.size = c * 3) (hn : n ≤ c) (hc : c ≤ 9223372036854775807) (h0 : 1 ≤ m) (h1 : m + 3 * n ≤ 9000000) :
    Calls Tryd.prog 39 #[.slice (some ⟨g, 0, none⟩) n c, .int .i64 (m : Int)] w fun e w' => e = .returned (.int .i64 ((m + 3 * n : Nat) : Int)) ∧ w.grownBy w' (some g) ∧ ∃ cs, w'.heap[g]? = some (.cells cs 25 (0, 0)) ∧ cs.size = c * 3 ∧ ArrR vEnc 3 cs (markV m n) n := by
  have HB0 := hide hb
  have hgl : g < w.heap.size := lt_block hb
  clear hb
  go_enter Tryd.func39, Tryd.ntmps39
  go_wp2_with fail
  go_loopg [1, 5] n (fun gk s1 s5 wr => w.grownBy wr (some g) ∧ ∃ (k : Nat) (cs : Array Value), k + gk = n ∧ s1 = .int .i64 ((m + 3 * k : Nat) : Int) ∧ s5 = .int .i64 (k : Int) ∧ cs.size = c * 3 ∧ wr.heap[g]? = some (.cells cs 25 (0, 0)) ∧ ArrR vEnc 3 cs (markV m n) k)
  case atStart => exact ⟨World.grownBy.refl _ _, 0, cs0, by omega, rfl, rfl, hs, HB0.out, fun j hj => by omega⟩
  case round =>
    clear HB0
    obtain ⟨hgw, k, cs, hk, rfl, rfl, hsz, hblk, harr⟩ := hrel
    have HG := hide hgw
    have HB := hide hblk
    have HA := hide harr
    have HZ := hide hsz
    have hgr : g < wr.heap.size := lt_block hblk
    clear hgw hblk harr hsz
    by_cases hlt : k < n
    · have hkc : k * 3 + 3 ≤ c * 3 := by omega
      have hml : k < (markV m n).length := by rw [markV_len]; exact hlt
      have hme : (markV m n)[k] = ⟨((m + 3 * k : Nat) : Int), ((m + 3 * k + 1 : Nat) : Int), mkT (m + 3 * k + 2)⟩ := by simp [markV]
      have HA' := hide (HA.out.step (by decide) vEnc_len hml (by rw [markV_len, HZ.out]; omega))
      rw [hme] at HA'
      clear HA hme
      obtain ⟨M, hM⟩ : ∃ M : Nat, M = m + 3 * k := ⟨_, rfl⟩
      rw [← hM] at HA' ⊢
      have hM1 : 1 ≤ M := by omega
      have hM2 : M + 3 ≤ 9000000 := by omega
      have hMn := hide (show m + 3 * (k + 1) = M + 3 by omega)
      clear hM
      have x0 : ∃ u, wr.cell? ⟨g, k * 3, none⟩ = some u := ⟨_, by rw [cell_block HB.out]; exact Array.getElem?_eq_getElem (by rw [HZ.out]; omega)⟩
      obtain ⟨u0, x0⟩ := x0
      have z0 := froz_block HB.out (k * 3)
      have x1 : ∃ u, wr.cell? ⟨g, k * 3 + 1, none⟩ = some u := ⟨_, by rw [cell_block HB.out]; exact Array.getElem?_eq_getElem (by rw [HZ.out]; omega)⟩
      obtain ⟨u1, x1⟩ := x1
      have z1 := froz_block HB.out (k * 3 + 1)
      go_wp2_with fail
      with_reducible refine (markText_at _ (M + 2) (by go_num) (by omega) (by omega) _).mono ?_
      rintro e w2 ⟨rfl, hb2⟩
      generalize hT : mkT (M + 2) = TX at *
      have B2 := hide (blk_own hb2 (set_block (set_block HB.out _ _) _ _))
      have G2 : Hid (w.grownBy w2 (some g)) := grown_trans (grown_trans (grown_trans HG.out (grown_setCell _ _ _ _)) (grown_setCell _ _ _ _)) (grown_below hb2 _)
      have y2 : ∃ u, w2.cell? ⟨g, k * 3 + 2, none⟩ = some u := ⟨_, by rw [cell_block B2.out]; exact Array.getElem?_eq_getElem (by simp [HZ.out]; omega)⟩
      obtain ⟨u2, y2⟩ := y2
      have z2 := froz_block B2.out (k * 3 + 2)
      clear hb2 hT
      go_wp2_with fail
      go_roundg (gk - 1)
      case measure => omega
      case rel => exact ⟨grown_trans G2.out (grown_setCell _ _ _ _), k + 1, _, by omega, by rw [hMn.out]; go_num, by go_num, by simp [HZ.out], set_block B2.out _ _, HA'.out⟩
    · have hkl : k = n := by omega
      subst hkl
      go_wp2_with fail
      go_ret
      exact ⟨rfl, HG.out, cs, HB.out, HZ.out, HA.out⟩
theorem markValueS_any (B : Nat) (v : Value) (l : List RVal) (m : Nat) (w : World) (h : OwnR vEnc 3 25 B w v l) (h0 : 1 ≤ m) (h1 : m + 3 * l.length ≤ 9000000) :
    Calls Tryd.prog 39 #[v, .int .i64 (m : Int)] w fun e w' => e = .returned (.int .i64 ((m + 3 * l.length : Nat) : Int)) ∧ w.grownBy w' v.ownBlock ∧ OwnR vEnc 3 25 B w' v (markV m l.length) := by
  by_cases hl : l = []
  · subst hl
    obtain ⟨a, c, rfl, hc1, hc2⟩ := own_slc h
    have HO : Hid (OwnR vEnc 3 25 B w (.slice a 0 c) (markV m 0)) := h
    clear h
    go_enter Tryd.func39, Tryd.ntmps39
    go_wp2_with fail
    go_loopg [1, 5] 0 (fun gk s1 s5 wr => wr = w ∧ gk = 0 ∧ s1 = .int .i64 (m : Int) ∧ s5 = .int .i64 0)
    case atStart => exact ⟨rfl, rfl, rfl, rfl⟩
    case round =>
      obtain ⟨rfl, rfl, rfl, rfl⟩ := hrel
      go_wp2_with fail
      go_ret
      exact ⟨rfl, World.grownBy.refl _ _, HO.out⟩
  · obtain ⟨g, c, cs, rfl, hB, hg, hs, hlc, hc⟩ := h.cells hl
    refine (markValueS_blk g l.length c m cs w hg hs hlc hc h0 h1).mono ?_
    rintro e w' ⟨rfl, hgr, cs', hg', hs', ha⟩
    have ha' : ArrR vEnc 3 cs' (markV m l.length) (markV m l.length).length := by rw [markV_len]; exact ha
    exact ⟨rfl, hgr, own_marked (by decide) vEnc_len hB hg' ha' hs' (by rw [markV_len]; exact hlc) hc (markV_len _ _)⟩
set_option maxHeartbeats 8000000 in
set_option maxRecDepth 100000 in
theorem heldValueS_any (v : Value) (m n : Nat) (w : World) (h : Recs vEnc 3 w v (markV m n)) (h0 : 1 ≤ m) (h1 : m + 3 * n ≤ 9000000) :
    Calls Tryd.prog 40 #[v, .int .i64 (m : Int)] w fun e w' => e = .returned (.int .i64 ((m + 3 * n : Nat) : Int)) ∧ Below w.heap.size w w' := by
  obtain ⟨a, cap, rfl, hl, hcap, -, hd⟩ := h
  rw [markV_len] at *
  go_enter Tryd.func40, Tryd.ntmps40
  go_wp2_with fail
  go_loopg [1, 5] n (fun gk s1 s5 wr => Below w.heap.size w wr ∧ ∃ k : Nat, k + gk = n ∧ s1 = .int .i64 ((m + 3 * k : Nat) : Int) ∧ s5 = .int .i64 (k : Int))
  case atStart => exact ⟨Below.refl _ _, 0, by omega, rfl, rfl⟩
  case round =>
    obtain ⟨hbw, k, hk, rfl, rfl⟩ := hrel
    have HW := hide hbw
    by_cases hlt : k < n
    · have hml : k < (markV m n).length := by rw [markV_len]; exact hlt
      obtain ⟨b, off, rfl, hbb, hcell⟩ := hd.resolve_left (by intro h; rw [h] at hml; simp at hml)
      have hme : (markV m n)[k] = ⟨((m + 3 * k : Nat) : Int), ((m + 3 * k + 1 : Nat) : Int), mkT (m + 3 * k + 2)⟩ := by simp [markV]
      have hc := hcell k hml
      rw [hme] at hc
      clear hd hcell hme
      obtain ⟨M, hM⟩ : ∃ M : Nat, M = m + 3 * k := ⟨_, rfl⟩
      rw [← hM] at hc ⊢
      have hM1 : 1 ≤ M := by omega
      have hM2 : M + 3 ≤ 9000000 := by omega
      have hMn := hide (show m + 3 * (k + 1) = M + 3 by omega)
      clear hM
      have e := at3 (fun j u hu => (hbw.cell (p := ⟨b, _, none⟩) hbb).trans (hc j u hu))
      have e0 : wr.cell? ⟨b, off + k * 3, none⟩ = some (.int .i64 (M : Int)) := e.1
      have e1 : wr.cell? ⟨b, off + k * 3 + 1, none⟩ = some (.int .i64 ((M : Int) + 1)) := e.2.1
      have e2 : wr.cell? ⟨b, off + k * 3 + 2, none⟩ = some (.string (mkT (M + 2))) := e.2.2
      clear e
      have f := fun z : BW wr => bw_cell (p := ⟨b, off + k * 3 + 2, none⟩) (Nat.lt_of_lt_of_le hbb hbw.size) e2 z
      clear hbw hc
      go_upto_region 10 with fail
      generalize hT : mkT (M + 2) = TX at *
      have HT := hide hT
      clear hT e2
      refine wp_region_bw (by kernel_rfl) (by kernel_rfl) ?_
      repeat (go_big_quiet_step (first | (go_at_call 65; with_reducible exact bw_of ((markText_at _ (M + 2) (by go_num) (by omega) (by omega) _).mono (fun e' w' h => ⟨by rw [h.1, HT.out], h.2⟩)))))
      refine wpQuiet_nil ?_
      rintro _ ⟨z, rfl⟩
      have H1 : Hid (Below w.heap.size w z.v) := HW.out.trans (z.h.mono HW.out.size)
      go_wp2_with fail
      go_roundg (gk - 1)
      case measure => omega
      case rel => exact ⟨H1.out, k + 1, by omega, by rw [hMn.out]; go_num, by go_num⟩
    · have hkl : k = n := by omega
      subst hkl
      clear hd hbw
      go_wp2_with fail
      go_ret
      exact ⟨rfl, HW.out⟩
set_option maxHeartbeats 8000000 in
set_option maxRecDepth 100000 in
theorem markChangeS_blk (g n c m : Nat) (cs0 : Array Value) (w : World) (hb : w.heap[g]? = some (.cells cs0 29 (0, 0))) (hs : cs0.size = c * 6) (hn : n ≤ c) (hc : c ≤ 9223372036854775807) (h0 : 1 ≤ m) (h1 : m + 6 * n ≤ 9000000) :
    Calls Tryd.prog 45 #[.slice (some ⟨g, 0, none⟩) n c, .int .i64 (m : Int)] w fun e w' => e = .returned (.int .i64 ((m + 6 * n : Nat) : Int)) ∧ w.grownBy w' (some g) ∧ ∃ cs, w'.heap[g]? = some (.cells cs 29 (0, 0)) ∧ cs.size = c * 6 ∧ ArrR hEnc 6 cs (markH m n) n := by
  have HB0 := hide hb
  have hgl : g < w.heap.size := lt_block hb
  clear hb
  go_enter Tryd.func45, Tryd.ntmps45
  go_wp2_with fail
  go_loopg [1, 5] n (fun gk s1 s5 wr => w.grownBy wr (some g) ∧ ∃ (k : Nat) (cs : Array Value), k + gk = n ∧ s1 = .int .i64 ((m + 6 * k : Nat) : Int) ∧ s5 = .int .i64 (k : Int) ∧ cs.size = c * 6 ∧ wr.heap[g]? = some (.cells cs 29 (0, 0)) ∧ ArrR hEnc 6 cs (markH m n) k)
  case atStart => exact ⟨World.grownBy.refl _ _, 0, cs0, by omega, rfl, rfl, hs, HB0.out, fun j hj => by omega⟩
  case round =>
    clear HB0
    obtain ⟨hgw, k, cs, hk, rfl, rfl, hsz, hblk, harr⟩ := hrel
    have HG := hide hgw
    have HB := hide hblk
    have HA := hide harr
    have HZ := hide hsz
    have hgr : g < wr.heap.size := lt_block hblk
    clear hgw hblk harr hsz
    by_cases hlt : k < n
    · have hkc : k * 6 + 6 ≤ c * 6 := by omega
      have hml : k < (markH m n).length := by rw [markH_len]; exact hlt
      have hme : (markH m n)[k] = ⟨((m + 6 * k : Nat) : Int), ((m + 6 * k + 1 : Nat) : Int), ⟨((m + 6 * k + 2 : Nat) : Int), ⟨((m + 6 * k + 3 : Nat) : Int), ((m + 6 * k + 4 : Nat) : Int), mkT (m + 6 * k + 5)⟩⟩⟩ := by simp [markH]
      have HA' := hide (HA.out.step (by decide) hEnc_len hml (by rw [markH_len, HZ.out]; omega))
      rw [hme] at HA'
      clear HA hme
      obtain ⟨M, hM⟩ : ∃ M : Nat, M = m + 6 * k := ⟨_, rfl⟩
      rw [← hM] at HA' ⊢
      have hM1 : 1 ≤ M := by omega
      have hM2 : M + 6 ≤ 9000000 := by omega
      have hMn := hide (show m + 6 * (k + 1) = M + 6 by omega)
      clear hM
      have x0 : ∃ u, wr.cell? ⟨g, k * 6, none⟩ = some u := ⟨_, by rw [cell_block HB.out]; exact Array.getElem?_eq_getElem (by rw [HZ.out]; omega)⟩
      obtain ⟨u0, x0⟩ := x0
      have z0 := froz_block HB.out (k * 6)
      have x1 : ∃ u, wr.cell? ⟨g, k * 6 + 1, none⟩ = some u := ⟨_, by rw [cell_block HB.out]; exact Array.getElem?_eq_getElem (by rw [HZ.out]; omega)⟩
      obtain ⟨u1, x1⟩ := x1
      have z1 := froz_block HB.out (k * 6 + 1)
      have x2 : ∃ u, wr.cell? ⟨g, k * 6 + 2, none⟩ = some u := ⟨_, by rw [cell_block HB.out]; exact Array.getElem?_eq_getElem (by rw [HZ.out]; omega)⟩
      obtain ⟨u2, x2⟩ := x2
      have z2 := froz_block HB.out (k * 6 + 2)
      have x3 : ∃ u, wr.cell? ⟨g, k * 6 + 3, none⟩ = some u := ⟨_, by rw [cell_block HB.out]; exact Array.getElem?_eq_getElem (by rw [HZ.out]; omega)⟩
      obtain ⟨u3, x3⟩ := x3
      have z3 := froz_block HB.out (k * 6 + 3)
      have x4 : ∃ u, wr.cell? ⟨g, k * 6 + 4, none⟩ = some u := ⟨_, by rw [cell_block HB.out]; exact Array.getElem?_eq_getElem (by rw [HZ.out]; omega)⟩
      obtain ⟨u4, x4⟩ := x4
      have z4 := froz_block HB.out (k * 6 + 4)
      go_wp2_with fail
      with_reducible refine (markText_at _ (M + 5) (by go_num) (by omega) (by omega) _).mono ?_
      rintro e w2 ⟨rfl, hb2⟩
      generalize hT : mkT (M + 5) = TX at *
      have B2 := hide (blk_own hb2 (set_block (set_block (set_block (set_block (set_block HB.out _ _) _ _) _ _) _ _) _ _))
      have G2 : Hid (w.grownBy w2 (some g)) := grown_trans (grown_trans (grown_trans (grown_trans (grown_trans (grown_trans HG.out (grown_setCell _ _ _ _)) (grown_setCell _ _ _ _)) (grown_setCell _ _ _ _)) (grown_setCell _ _ _ _)) (grown_setCell _ _ _ _)) (grown_below hb2 _)
      have y5 : ∃ u, w2.cell? ⟨g, k * 6 + 5, none⟩ = some u := ⟨_, by rw [cell_block B2.out]; exact Array.getElem?_eq_getElem (by simp [HZ.out]; omega)⟩
      obtain ⟨u5, y5⟩ := y5
      have z5 := froz_block B2.out (k * 6 + 5)
      clear hb2 hT
      go_wp2_with fail
      go_roundg (gk - 1)
      case measure => omega
      case rel => exact ⟨grown_trans G2.out (grown_setCell _ _ _ _), k + 1, _, by omega, by rw [hMn.out]; go_num, by go_num, by simp [HZ.out], set_block B2.out _ _, HA'.out⟩
    · have hkl : k = n := by omega
      subst hkl
      go_wp2_with fail
      go_ret
      exact ⟨rfl, HG.out, cs, HB.out, HZ.out, HA.out⟩
theorem markChangeS_any (B : Nat) (v : Value) (l : List RChg) (m : Nat) (w : World) (h : OwnR hEnc 6 29 B w v l) (h0 : 1 ≤ m) (h1 : m + 6 * l.length ≤ 9000000) :
    Calls Tryd.prog 45 #[v, .int .i64 (m : Int)] w fun e w' => e = .returned (.int .i64 ((m + 6 * l.length : Nat) : Int)) ∧ w.grownBy w' v.ownBlock ∧ OwnR hEnc 6 29 B w' v (markH m l.length) := by
  by_cases hl : l = []
  · subst hl
    obtain ⟨a, c, rfl, hc1, hc2⟩ := own_slc h
    have HO : Hid (OwnR hEnc 6 29 B w (.slice a 0 c) (markH m 0)) := h
    clear h
    go_enter Tryd.func45, Tryd.ntmps45
    go_wp2_with fail
    go_loopg [1, 5] 0 (fun gk s1 s5 wr => wr = w ∧ gk = 0 ∧ s1 = .int .i64 (m : Int) ∧ s5 = .int .i64 0)
    case atStart => exact ⟨rfl, rfl, rfl, rfl⟩
    case round =>
      obtain ⟨rfl, rfl, rfl, rfl⟩ := hrel
      go_wp2_with fail
      go_ret
      exact ⟨rfl, World.grownBy.refl _ _, HO.out⟩
  · obtain ⟨g, c, cs, rfl, hB, hg, hs, hlc, hc⟩ := h.cells hl
    refine (markChangeS_blk g l.length c m cs w hg hs hlc hc h0 h1).mono ?_
    rintro e w' ⟨rfl, hgr, cs', hg', hs', ha⟩
    have ha' : ArrR hEnc 6 cs' (markH m l.length) (markH m l.length).length := by rw [markH_len]; exact ha
    exact ⟨rfl, hgr, own_marked (by decide) hEnc_len hB hg' ha' hs' (by rw [markH_len]; exact hlc) hc (markH_len _ _)⟩
end Go.Proofs.YtdijcdadcbhipaaDoor
