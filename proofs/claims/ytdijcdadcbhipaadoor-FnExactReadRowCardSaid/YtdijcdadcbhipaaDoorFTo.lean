/-
  The measures, copies and comparisons of the exact laws, at values, columns and changes.
-/
import Derived.Test.YtdijcdadcbhipaaDoorFCl
import Derived.Test.YtdijcdadcbhipaaDoorFR2
import Derived.Test.YtdijcdadcbhipaaDoorMake
import Derived.Deep.LoopGhost
set_option linter.all false
namespace Go.Proofs.YtdijcdadcbhipaaDoor
open Go.RowKit
def SzP (w : World) (left : Int) (e : Ending) (w' : World) : Prop := ∃ r : Int, e = .returned (.int .i64 r) ∧ -1 ≤ r ∧ r ≤ left ∧ Below w.heap.size w w'
def SzN (w : World) (left : Int) (n : Nat) (e : Ending) (w' : World) : Prop := ∃ r : Int, e = .returned (.int .i64 r) ∧ -1 ≤ r ∧ r ≤ left ∧ (r < 0 ∨ (n : Int) + r ≤ left) ∧ Below w.heap.size w w'
theorem infoH : (Tryd.prog.info? 29).map (fun i => (i.zero, i.size, i.bytes)) = some (some (.agg #[.int .i64 0, .int .i64 0, .int .i64 0, .int .i64 0, .int .i64 0, .string ⟨#[]⟩]), 6, 56) := by kernel_rfl
/-- the first k records of l lie in the cells -/
def ArrR {α : Type} (enc : α → List Value) (K : Nat) (cs : Array Value) (l : List α) (k : Nat) : Prop := ∀ i (hi : i < k) (hl : i < l.length) j u, (enc l[i])[j]? = some u → cs[i * K + j]? = some u
theorem ArrR.step {α : Type} {enc : α → List Value} {K : Nat} (hK : 0 < K) (he : ∀ x, (enc x).length = K) {cs : Array Value} {l : List α} {k : Nat} (h : ArrR enc K cs l k) (hk : k < l.length) (hs : l.length * K ≤ cs.size) : ArrR enc K (putC cs (k * K) (enc l[k])) l (k + 1) := by
  intro i hi hl j u hu
  have hj : j < K := by rw [← he l[i]]; exact (List.getElem?_eq_some_iff.1 hu).1
  have hkk : k * K + K ≤ l.length * K := by rw [← Nat.succ_mul]; exact Nat.mul_le_mul_right _ hk
  by_cases hik : i = k
  · subst hik
    rw [putC_in _ _ _ j (by rw [he]; omega) (by rw [he]; exact hj)]
    exact hu
  · have : i * K + K ≤ k * K := by rw [← Nat.succ_mul]; exact Nat.mul_le_mul_right _ (by omega)
    rw [putC_out _ _ _ _ (.inl (by omega))]
    exact h i (by omega) hl j u hu
theorem own_arr {α : Type} {enc : α → List Value} {K : Nat} (hK : 0 < K) (he : ∀ x, (enc x).length = K) {w : World} {g : Nat} {cs : Array Value} {t : TypeId} {l : List α} {B : Nat} (hB : B ≤ g) (h : w.heap[g]? = some (.cells cs t (0, 0))) (ha : ArrR enc K cs l l.length) (hs : cs.size = l.length * K) (hl : l.length ≤ 1048576) :
    OwnR enc K t B w (.slice (some ⟨g, 0, none⟩) l.length l.length) l := by
  refine own_of hB h hs (by unfold maxLen; omega) (Nat.le_refl _) (flat_len he l) fun j hj => ?_
  rw [flat_len he] at hj
  obtain ⟨i, q, hi, hq, rfl⟩ := flat_split hK l.length hj
  rw [flat_at he l i hi q hq]
  have hlt : q < (enc l[i]).length := by rw [he]; exact hq
  rw [List.getElem?_eq_getElem hlt]
  exact ha i hi hi q _ (List.getElem?_eq_getElem hlt)
set_option maxHeartbeats 1000000 in
theorem szValue_any (v : RVal) (left : Int) (w : World) (hv : okV v) (h0 : 0 ≤ left) (h1 : left ≤ 1048576) :
    Calls Tryd.prog 75 #[(.agg #[.int .i64 v.k, .int .i64 v.n, .string v.s]), .int .i64 left] w (SzP w left) := by
  obtain ⟨k, n, s⟩ := v
  have hz : s.size ≤ 9223372036854775807 := hv
  have HB := hide (below_box w (.cells #[.int .i64 k, .int .i64 n, .string s] 38))
  by_cases c1 : left - (s.size : Int) < 0
  · have hw : IntKind.i64.wrap (left - (s.size : Int)) = left - (s.size : Int) := by rw [IntKind.wrap_i64]; omega
    clear hv
    go_enter Tryd.func75, Tryd.ntmps75
    go_wp2_with fail
    go_ret
    exact ⟨-1, rfl, by omega, by omega, HB.out⟩
  · have hw : IntKind.i64.wrap (left - (s.size : Int)) = left - (s.size : Int) := by rw [IntKind.wrap_i64]; omega
    clear hv
    go_enter Tryd.func75, Tryd.ntmps75
    go_wp2_with fail
    go_ret
    exact ⟨_, rfl, by omega, by omega, HB.out⟩
set_option maxHeartbeats 1000000 in
theorem szColumn_any (c : RCol) (left : Int) (w : World) (hv : okC c) (h0 : 0 ≤ left) (h1 : left ≤ 1048576) :
    Calls Tryd.prog 62 #[.agg #[.int .i64 c.k, .int .i64 c.d.k, .int .i64 c.d.n, .string c.d.s], .int .i64 left] w (SzP w left) := by
  have HB := hide (below_box w (.cells #[.int .i64 c.k, .int .i64 c.d.k, .int .i64 c.d.n, .string c.d.s] 40))
  have hv2 : okV c.d := hv
  go_enter Tryd.func62, Tryd.ntmps62
  go_wp2_with fail
  with_reducible refine (szValue_any c.d left _ hv2 h0 h1).mono ?_
  rintro e w1 ⟨r, rfl, hr0, hr1, hb1⟩
  have H1 := hide (HB.out.trans (hb1.mono HB.out.size))
  clear hb1
  by_cases hr : r < 0
  · go_wp2_with fail
    go_ret
    exact ⟨-1, rfl, by omega, by omega, H1.out⟩
  · go_wp2_with fail
    go_ret
    exact ⟨r, rfl, hr0, hr1, H1.out⟩
set_option maxHeartbeats 1000000 in
theorem szChange_any (c : RChg) (left : Int) (w : World) (hv : okH c) (h0 : 0 ≤ left) (h1 : left ≤ 1048576) :
    Calls Tryd.prog 21 #[.agg #[.int .i64 c.k, .int .i64 c.a, .int .i64 c.c.k, .int .i64 c.c.d.k, .int .i64 c.c.d.n, .string c.c.d.s], .int .i64 left] w (SzP w left) := by
  have HB := hide (below_box w (.cells #[.int .i64 c.k, .int .i64 c.a, .int .i64 c.c.k, .int .i64 c.c.d.k, .int .i64 c.c.d.n, .string c.c.d.s] 42))
  have hv2 : okC c.c := hv
  go_enter Tryd.func21, Tryd.ntmps21
  go_wp2_with fail
  with_reducible refine (szColumn_any c.c left _ hv2 h0 h1).mono ?_
  rintro e w1 ⟨r, rfl, hr0, hr1, hb1⟩
  have H1 := hide (HB.out.trans (hb1.mono HB.out.size))
  clear hb1
  by_cases hr : r < 0
  · go_wp2_with fail
    go_ret
    exact ⟨-1, rfl, by omega, by omega, H1.out⟩
  · go_wp2_with fail
    go_ret
    exact ⟨r, rfl, hr0, hr1, H1.out⟩
set_option maxHeartbeats 2000000 in
theorem toValue_any (e : RVal) (w : World) :
    Calls Tryd.prog 76 #[(.agg #[.int .i64 e.k, .int .i64 e.n, .string e.s])] w fun e' w' => e' = .returned (.agg #[.int .i64 e.k, .int .i64 e.n, .string e.s]) ∧ Below w.heap.size w w' := by
  go_enter Tryd.func76, Tryd.ntmps76
  go_wp2_with fail
  all_goals go_tidy
  refine ⟨rfl, (.agg #[.int .i64 e.k, .int .i64 e.n, .string e.s]), by simp [results, Tryd.results76, go_sem], rfl, ?_⟩
  repeat (first | (with_reducible exact Below.refl _ _) | (with_reducible refine Below.setCell ?_ (by simp) _) | (with_reducible refine Below.alloc ?_ (by simp <;> omega) _))
set_option maxHeartbeats 4000000 in
theorem toColumn_any (e : RCol) (w : World) :
    Calls Tryd.prog 63 #[(.agg #[.int .i64 e.k, .int .i64 e.d.k, .int .i64 e.d.n, .string e.d.s])] w fun e' w' => e' = .returned (.agg #[.int .i64 e.k, .int .i64 e.d.k, .int .i64 e.d.n, .string e.d.s]) ∧ Below w.heap.size w w' := by
  have Z0 := hide (blk_keep (blk_alloc (w.alloc (.cells #[.int .i64 e.k, .int .i64 e.d.k, .int .i64 e.d.n, .string e.d.s] 40)) (.cells #[.int .i64 0, .int .i64 0, .int .i64 0, .string ⟨#[]⟩] 27)) (.cells #[.int .i64 e.k, .int .i64 0, .int .i64 0, .string ⟨#[]⟩] 27))
  have Y0 := hide (blk_alloc ((w.alloc (.cells #[.int .i64 e.k, .int .i64 e.d.k, .int .i64 e.d.n, .string e.d.s] 40)).alloc (.cells #[.int .i64 0, .int .i64 0, .int .i64 0, .string ⟨#[]⟩] 27)) (.cells #[.int .i64 e.k, .int .i64 0, .int .i64 0, .string ⟨#[]⟩] 27))
  have H0 : Hid (Below w.heap.size w (((w.alloc (.cells #[.int .i64 e.k, .int .i64 e.d.k, .int .i64 e.d.n, .string e.d.s] 40)).alloc (.cells #[.int .i64 0, .int .i64 0, .int .i64 0, .string ⟨#[]⟩] 27)).alloc (.cells #[.int .i64 e.k, .int .i64 0, .int .i64 0, .string ⟨#[]⟩] 27))) := (((Below.refl _ _).alloc (Nat.le_refl _) _).alloc (by simp) _).alloc (by simp; omega) _
  go_enter Tryd.func63, Tryd.ntmps63
  go_wp2_with fail
  with_reducible refine (toValue_any e.d _).mono ?_
  rintro e' w1 ⟨rfl, hb1⟩
  have H1 := hide (H0.out.trans (hb1.mono H0.out.size))
  obtain ⟨⟨a0, a1, a2, a3⟩, m0, m1, m2, m3⟩ := cells4 (blk_own hb1 Z0.out)
  obtain ⟨⟨b0, b1, b2, b3⟩, n0, n1, n2, n3⟩ := cells4 (blk_own hb1 Y0.out)
  simp only [World.size_alloc] at a0 a1 a2 a3 m0 m1 m2 m3 b0 b1 b2 b3 n0 n1 n2 n3
  clear hb1
  go_wp2_with fail
  all_goals go_tidy
  refine ⟨rfl, (.agg #[.int .i64 e.k, .int .i64 e.d.k, .int .i64 e.d.n, .string e.d.s]), by simp [results, Tryd.results63, go_sem, a0, a1, a2, a3, m0, m1, m2, m3, b0, b1, b2, b3, n0, n1, n2, n3], rfl, ?_⟩
  repeat (first | (with_reducible exact H1.out) | (with_reducible refine Below.setCell ?_ (by simp <;> omega) _))
set_option maxHeartbeats 4000000 in
theorem toChange_any (e : RChg) (w : World) :
    Calls Tryd.prog 23 #[(.agg #[.int .i64 e.k, .int .i64 e.a, .int .i64 e.c.k, .int .i64 e.c.d.k, .int .i64 e.c.d.n, .string e.c.d.s])] w fun e' w' => e' = .returned (.agg #[.int .i64 e.k, .int .i64 e.a, .int .i64 e.c.k, .int .i64 e.c.d.k, .int .i64 e.c.d.n, .string e.c.d.s]) ∧ Below w.heap.size w w' := by
  have Z0 := hide (blk_keep (blk_alloc (w.alloc (.cells #[.int .i64 e.k, .int .i64 e.a, .int .i64 e.c.k, .int .i64 e.c.d.k, .int .i64 e.c.d.n, .string e.c.d.s] 42)) (.cells #[.int .i64 0, .int .i64 0, .int .i64 0, .int .i64 0, .int .i64 0, .string ⟨#[]⟩] 29)) (.cells #[.int .i64 e.k, .int .i64 e.a, .int .i64 0, .int .i64 0, .int .i64 0, .string ⟨#[]⟩] 29))
  have Y0 := hide (blk_alloc ((w.alloc (.cells #[.int .i64 e.k, .int .i64 e.a, .int .i64 e.c.k, .int .i64 e.c.d.k, .int .i64 e.c.d.n, .string e.c.d.s] 42)).alloc (.cells #[.int .i64 0, .int .i64 0, .int .i64 0, .int .i64 0, .int .i64 0, .string ⟨#[]⟩] 29)) (.cells #[.int .i64 e.k, .int .i64 e.a, .int .i64 0, .int .i64 0, .int .i64 0, .string ⟨#[]⟩] 29))
  have H0 : Hid (Below w.heap.size w (((w.alloc (.cells #[.int .i64 e.k, .int .i64 e.a, .int .i64 e.c.k, .int .i64 e.c.d.k, .int .i64 e.c.d.n, .string e.c.d.s] 42)).alloc (.cells #[.int .i64 0, .int .i64 0, .int .i64 0, .int .i64 0, .int .i64 0, .string ⟨#[]⟩] 29)).alloc (.cells #[.int .i64 e.k, .int .i64 e.a, .int .i64 0, .int .i64 0, .int .i64 0, .string ⟨#[]⟩] 29))) := (((Below.refl _ _).alloc (Nat.le_refl _) _).alloc (by simp) _).alloc (by simp; omega) _
  go_enter Tryd.func23, Tryd.ntmps23
  go_wp2_with fail
  with_reducible refine (toColumn_any e.c _).mono ?_
  rintro e' w1 ⟨rfl, hb1⟩
  have H1 := hide (H0.out.trans (hb1.mono H0.out.size))
  obtain ⟨⟨a0, a1, a2, a3, a4, a5⟩, m0, m1, m2, m3, m4, m5⟩ := cells6 (blk_own hb1 Z0.out)
  obtain ⟨⟨b0, b1, b2, b3, b4, b5⟩, n0, n1, n2, n3, n4, n5⟩ := cells6 (blk_own hb1 Y0.out)
  simp only [World.size_alloc] at a0 a1 a2 a3 a4 a5 m0 m1 m2 m3 m4 m5 b0 b1 b2 b3 b4 b5 n0 n1 n2 n3 n4 n5
  clear hb1
  go_wp2_with fail
  all_goals go_tidy
  refine ⟨rfl, (.agg #[.int .i64 e.k, .int .i64 e.a, .int .i64 e.c.k, .int .i64 e.c.d.k, .int .i64 e.c.d.n, .string e.c.d.s]), by simp [results, Tryd.results23, go_sem, a0, a1, a2, a3, a4, a5, m0, m1, m2, m3, m4, m5, b0, b1, b2, b3, b4, b5, n0, n1, n2, n3, n4, n5], rfl, ?_⟩
  repeat (first | (with_reducible exact H1.out) | (with_reducible refine Below.setCell ?_ (by simp <;> omega) _))
set_option maxHeartbeats 2000000 in
theorem eqValue_same (e : RVal) (w : World) :
    Calls Tryd.prog 77 #[(.agg #[.int .i64 e.k, .int .i64 e.n, .string e.s]), (.agg #[.int .i64 e.k, .int .i64 e.n, .string e.s])] w fun x w' => x = .returned (.bool true) ∧ Below w.heap.size w w' := by
  go_enter Tryd.func77, Tryd.ntmps77
  go_wp2_with fail
  go_ret
  exact ⟨rfl, ((Below.refl _ _).alloc (Nat.le_refl _) _).alloc (by simp) _⟩
set_option maxHeartbeats 2000000 in
theorem eqColumn_same (e : RCol) (w : World) :
    Calls Tryd.prog 64 #[(.agg #[.int .i64 e.k, .int .i64 e.d.k, .int .i64 e.d.n, .string e.d.s]), (.agg #[.int .i64 e.k, .int .i64 e.d.k, .int .i64 e.d.n, .string e.d.s])] w fun x w' => x = .returned (.bool true) ∧ Below w.heap.size w w' := by
  have H0 := hide (below_box2 w (.cells #[.int .i64 e.k, .int .i64 e.d.k, .int .i64 e.d.n, .string e.d.s] 27) (.cells #[.int .i64 e.k, .int .i64 e.d.k, .int .i64 e.d.n, .string e.d.s] 27))
  go_enter Tryd.func64, Tryd.ntmps64
  go_wp2_with fail
  with_reducible refine (eqValue_same e.d _).mono ?_
  rintro x w1 ⟨rfl, hb1⟩
  have H1 := hide (H0.out.trans (hb1.mono H0.out.size))
  clear hb1
  go_wp2_with fail
  go_ret
  exact ⟨rfl, H1.out⟩
set_option maxHeartbeats 2000000 in
theorem eqChange_same (e : RChg) (w : World) :
    Calls Tryd.prog 78 #[(.agg #[.int .i64 e.k, .int .i64 e.a, .int .i64 e.c.k, .int .i64 e.c.d.k, .int .i64 e.c.d.n, .string e.c.d.s]), (.agg #[.int .i64 e.k, .int .i64 e.a, .int .i64 e.c.k, .int .i64 e.c.d.k, .int .i64 e.c.d.n, .string e.c.d.s])] w fun x w' => x = .returned (.bool true) ∧ Below w.heap.size w w' := by
  have H0 := hide (below_box2 w (.cells #[.int .i64 e.k, .int .i64 e.a, .int .i64 e.c.k, .int .i64 e.c.d.k, .int .i64 e.c.d.n, .string e.c.d.s] 29) (.cells #[.int .i64 e.k, .int .i64 e.a, .int .i64 e.c.k, .int .i64 e.c.d.k, .int .i64 e.c.d.n, .string e.c.d.s] 29))
  go_enter Tryd.func78, Tryd.ntmps78
  go_wp2_with fail
  with_reducible refine (eqColumn_same e.c _).mono ?_
  rintro x w1 ⟨rfl, hb1⟩
  have H1 := hide (H0.out.trans (hb1.mono H0.out.size))
  clear hb1
  go_wp2_with fail
  go_ret
  exact ⟨rfl, H1.out⟩
set_option maxHeartbeats 4000000 in
theorem szValueS_any (v : Value) (l : List RVal) (left : Int) (w : World) (h : Recs vEnc 3 w v l) (ho : ∀ x ∈ l, okV x) (h0 : 0 ≤ left) (h1 : left ≤ 1048576) :
    Calls Tryd.prog 36 #[v, .int .i64 left] w (SzN w left l.length) := by
  obtain ⟨a, cap, rfl, hl, hcap, -, hd⟩ := h
  have HO := hide ho
  clear ho
  by_cases c1 : left - (l.length : Int) < 0
  · have hw : IntKind.i64.wrap (left - (l.length : Int)) = left - (l.length : Int) := by rw [IntKind.wrap_i64]; omega
    clear hd
    go_enter Tryd.func36, Tryd.ntmps36
    go_wp2_with fail
    go_ret
    exact ⟨-1, rfl, by omega, by omega, .inl (by omega), Below.refl _ _⟩
  · have hw : IntKind.i64.wrap (left - (l.length : Int)) = left - (l.length : Int) := by rw [IntKind.wrap_i64]; omega
    go_enter Tryd.func36, Tryd.ntmps36
    go_wp2_with fail
    clear hw
    go_loopg [1, 5] l.length (fun gk s1 s5 wr => Below w.heap.size w wr ∧ ∃ (k : Nat) (r : Int), k + gk = l.length ∧ s1 = .int .i64 r ∧ s5 = .int .i64 (k : Int) ∧ 0 ≤ r ∧ r ≤ left - (l.length : Int))
    case atStart => exact ⟨Below.refl _ _, 0, _, by omega, rfl, rfl, by omega, by omega⟩
    case round =>
      obtain ⟨hbw, k, r, hk, rfl, rfl, hr0, hr1⟩ := hrel
      have HW := hide hbw
      by_cases hlt : k < l.length
      · obtain ⟨b, off, rfl, hbb, hcell⟩ := hd.resolve_left (by rintro rfl; simp at hlt)
        have e := at3 (fun j u hu => (hbw.cell (p := ⟨b, _, none⟩) hbb).trans (hcell k hlt j u hu))
        have OX := hide (HO.out _ (List.getElem_mem hlt))
        generalize l[k] = x at *
        obtain ⟨e0, e1, e2⟩ := e
        clear hd hcell hbw
        go_wp2_with fail
        with_reducible refine (szValue_any x r _ OX.out hr0 (by omega)).mono ?_
        rintro e w1 ⟨r2, rfl, q0, q1, hb1⟩
        have H1 : Hid (Below w.heap.size w w1) := HW.out.trans (hb1.mono HW.out.size)
        clear hb1
        by_cases hr : r2 < 0
        · go_wp2_with fail
          go_ret
          exact ⟨-1, rfl, by omega, by omega, .inl (by omega), H1.out⟩
        · go_wp2_with fail
          go_roundg (gk - 1)
          case measure => omega
          case rel => exact ⟨H1.out, k + 1, r2, by omega, rfl, by go_num, by omega, by omega⟩
      · clear hd hbw
        go_wp2_with fail
        go_ret
        exact ⟨r, rfl, by omega, by omega, .inr (by omega), HW.out⟩
set_option maxHeartbeats 4000000 in
theorem eqValueS_same (v v' : Value) (l : List RVal) (w : World) (h : Recs vEnc 3 w v l) (h' : Recs vEnc 3 w v' l) :
    Calls Tryd.prog 38 #[v, v'] w fun x w' => x = .returned (.bool true) ∧ Below w.heap.size w w' := by
  obtain ⟨a, cap, rfl, hl, hcap, -, hd⟩ := h
  obtain ⟨a', cap', rfl, hl', hcap', -, hd'⟩ := h'
  go_enter Tryd.func38, Tryd.ntmps38
  go_wp2_with fail
  go_loopg [5] l.length (fun gk s5 wr => Below w.heap.size w wr ∧ ∃ k : Nat, k + gk = l.length ∧ s5 = .int .i64 (k : Int))
  case atStart => exact ⟨Below.refl _ _, 0, by omega, rfl⟩
  case round =>
    obtain ⟨hbw, k, hk, rfl⟩ := hrel
    have HW := hide hbw
    by_cases hlt : k < l.length
    · obtain ⟨b, off, rfl, hbb, hcell⟩ := hd.resolve_left (by rintro rfl; simp at hlt)
      obtain ⟨b', off', rfl, hbb', hcell'⟩ := hd'.resolve_left (by rintro rfl; simp at hlt)
      have e := fun z : BW wr => at3 (fun j u hu => (z.h.cell (p := ⟨b, _, none⟩) (Nat.lt_of_lt_of_le hbb hbw.size)).trans ((hbw.cell (p := ⟨b, _, none⟩) hbb).trans (hcell k hlt j u hu)))
      have f := fun z : BW wr => at3 (fun j u hu => (z.h.cell (p := ⟨b', _, none⟩) (Nat.lt_of_lt_of_le hbb' hbw.size)).trans ((hbw.cell (p := ⟨b', _, none⟩) hbb').trans (hcell' k hlt j u hu)))
      clear hcell hd hcell' hd' hbw
      generalize l[k] = x at *
      have e0 := fun z => (e z).1
      have f0 := fun z => (f z).1
      have e1 := fun z => (e z).2.1
      have f1 := fun z => (f z).2.1
      have e2 := fun z => (e z).2.2
      have f2 := fun z => (f z).2.2
      clear e f
      go_wp2_with fail
      refine wp_region_bw (by kernel_rfl) (by kernel_rfl) ?_
      repeat (go_big_quiet_step (first | (go_at_call 77; with_reducible exact bw_of (eqValue_same x _))))
      refine wpQuiet_nil ?_
      rintro _ ⟨z, rfl⟩
      have H1 : Hid (Below w.heap.size w z.v) := HW.out.trans (z.h.mono HW.out.size)
      go_wp2_with fail
      go_roundg (gk - 1)
      case measure => omega
      case rel => exact ⟨H1.out, k + 1, by omega, by go_num⟩
    · clear hd hd' hbw
      go_wp2_with fail
      go_ret
      exact ⟨rfl, HW.out⟩
set_option maxHeartbeats 8000000 in
theorem toValueS_any (v : Value) (l : List RVal) (w : World) (h : Recs vEnc 3 w v l) (hn : l.length ≤ 1048576) :
    Calls Tryd.prog 37 #[v] w fun e w' => ∃ v', e = .returned v' ∧ OwnR vEnc 3 25 w.heap.size w' v' l ∧ Below w.heap.size w w' ∧ ∃ a, v' = .slice (some a) l.length l.length := by
  obtain ⟨a, cap, rfl, hl, hcap, -, hd⟩ := h
  obtain ⟨i0, hi, hz0, hz1, hz2⟩ := info_parts infoV
  obtain ⟨cs0, hcs0, hmk⟩ : ∃ cs0 : Array Value, cs0.size = l.length * 3 ∧ ∀ W : World, (Instr.makeSlice 56 (.int .i64 (l.length : Int)) (.int .i64 (l.length : Int))).run Tryd.prog W = .ok (.slice (some ⟨W.heap.size, 0, none⟩) l.length l.length) (W.alloc (.cells cs0 25)) :=
    ⟨madeCells (Value.cells (.agg #[.int .i64 0, .int .i64 0, .string ⟨#[]⟩])) (l.length * i0.size), by rw [size_madeCells, hz1], fun W => run_make_rowN _ _ i0 _ Tryd.underlying56 hi hz0 .i64 .i64 l.length l.length (Nat.le_refl _) (by rw [hz2]; omega) (by omega) W⟩
  have HC0 := hide hcs0
  clear hcs0 hi hz0 hz1 hz2
  go_enter Tryd.func37, Tryd.ntmps37
  go_wp2_with fail
  clear hmk
  go_loopg [4] l.length (fun gk s4 wr => Below w.heap.size w wr ∧ ∃ (k : Nat) (cs : Array Value), k + gk = l.length ∧ s4 = .int .i64 (k : Int) ∧ cs.size = l.length * 3 ∧ wr.heap[w.heap.size]? = some (.cells cs 25 (0, 0)) ∧ ArrR vEnc 3 cs l k)
  case atStart => exact ⟨(Below.refl _ _).alloc (Nat.le_refl _) _, 0, cs0, by omega, rfl, HC0.out, blk_alloc w _, fun j hj => by omega⟩
  case round =>
    obtain ⟨hbw, k, cs, hk, rfl, hsz, hblk, harr⟩ := hrel
    have HW := hide hbw
    have HB := hide hblk
    have HA := hide harr
    have HZ := hide hsz
    clear hblk harr hsz HC0
    by_cases hlt : k < l.length
    · obtain ⟨b, off, rfl, hbb, hcell⟩ := hd.resolve_left (by rintro rfl; simp at hlt)
      have e := at3 (fun j u hu => (hbw.cell (p := ⟨b, _, none⟩) hbb).trans (hcell k hlt j u hu))
      have HA' := hide (HA.out.step (by decide) vEnc_len hlt (by rw [HZ.out]; omega))
      clear hcell hd hbw HA
      generalize l[k] = x at *
      obtain ⟨e0, e1, e2⟩ := e
      go_wp2_with fail
      with_reducible refine (toValue_any x _).mono ?_
      rintro e' w1 ⟨rfl, hb1⟩
      have B1 := hide (blk_own hb1 HB.out)
      have H1 : Hid (Below w.heap.size w w1) := HW.out.trans (hb1.mono HW.out.size)
      clear hb1
      have y0 : ∃ u, w1.cell? ⟨w.heap.size, k * 3, none⟩ = some u := ⟨_, by rw [cell_block B1.out]; exact Array.getElem?_eq_getElem (by rw [HZ.out]; omega)⟩
      obtain ⟨u0, y0⟩ := y0
      have f0 := froz_block B1.out (k * 3)
      have y1 : ∃ u, w1.cell? ⟨w.heap.size, k * 3 + 1, none⟩ = some u := ⟨_, by rw [cell_block B1.out]; exact Array.getElem?_eq_getElem (by rw [HZ.out]; omega)⟩
      obtain ⟨u1, y1⟩ := y1
      have f1 := froz_block B1.out (k * 3 + 1)
      have y2 : ∃ u, w1.cell? ⟨w.heap.size, k * 3 + 2, none⟩ = some u := ⟨_, by rw [cell_block B1.out]; exact Array.getElem?_eq_getElem (by rw [HZ.out]; omega)⟩
      obtain ⟨u2, y2⟩ := y2
      have f2 := froz_block B1.out (k * 3 + 2)
      go_wp2_with fail
      go_roundg (gk - 1)
      case measure => omega
      case rel => exact ⟨(((H1.out.setCell (by simp) _).setCell (by simp) _).setCell (by simp) _), k + 1, _, by omega, by go_num, by simp [HZ.out], (set_block (set_block (set_block B1.out _ _) _ _) _ _), HA'.out⟩
    · have hkl : k = l.length := by omega
      subst hkl
      have HV : Hid (OwnR vEnc 3 25 w.heap.size wr (.slice (some ⟨w.heap.size, 0, none⟩) l.length l.length) l) := own_arr (by decide) vEnc_len (Nat.le_refl _) HB.out HA.out HZ.out hn
      clear hd hbw
      go_wp2_with fail
      go_ret
      exact ⟨_, rfl, HV.out, HW.out, _, rfl⟩
set_option maxHeartbeats 4000000 in
theorem szColumnS_any (v : Value) (l : List RCol) (left : Int) (w : World) (h : Recs cEnc 4 w v l) (ho : ∀ x ∈ l, okC x) (h0 : 0 ≤ left) (h1 : left ≤ 1048576) :
    Calls Tryd.prog 20 #[v, .int .i64 left] w (SzN w left l.length) := by
  obtain ⟨a, cap, rfl, hl, hcap, -, hd⟩ := h
  have HO := hide ho
  clear ho
  by_cases c1 : left - (l.length : Int) < 0
  · have hw : IntKind.i64.wrap (left - (l.length : Int)) = left - (l.length : Int) := by rw [IntKind.wrap_i64]; omega
    clear hd
    go_enter Tryd.func20, Tryd.ntmps20
    go_wp2_with fail
    go_ret
    exact ⟨-1, rfl, by omega, by omega, .inl (by omega), Below.refl _ _⟩
  · have hw : IntKind.i64.wrap (left - (l.length : Int)) = left - (l.length : Int) := by rw [IntKind.wrap_i64]; omega
    go_enter Tryd.func20, Tryd.ntmps20
    go_wp2_with fail
    clear hw
    go_loopg [1, 5] l.length (fun gk s1 s5 wr => Below w.heap.size w wr ∧ ∃ (k : Nat) (r : Int), k + gk = l.length ∧ s1 = .int .i64 r ∧ s5 = .int .i64 (k : Int) ∧ 0 ≤ r ∧ r ≤ left - (l.length : Int))
    case atStart => exact ⟨Below.refl _ _, 0, _, by omega, rfl, rfl, by omega, by omega⟩
    case round =>
      obtain ⟨hbw, k, r, hk, rfl, rfl, hr0, hr1⟩ := hrel
      have HW := hide hbw
      by_cases hlt : k < l.length
      · obtain ⟨b, off, rfl, hbb, hcell⟩ := hd.resolve_left (by rintro rfl; simp at hlt)
        have e := at4 (fun j u hu => (hbw.cell (p := ⟨b, _, none⟩) hbb).trans (hcell k hlt j u hu))
        have OX := hide (HO.out _ (List.getElem_mem hlt))
        generalize l[k] = x at *
        obtain ⟨e0, e1, e2, e3⟩ := e
        clear hd hcell hbw
        go_wp2_with fail
        with_reducible refine (szColumn_any x r _ OX.out hr0 (by omega)).mono ?_
        rintro e w1 ⟨r2, rfl, q0, q1, hb1⟩
        have H1 : Hid (Below w.heap.size w w1) := HW.out.trans (hb1.mono HW.out.size)
        clear hb1
        by_cases hr : r2 < 0
        · go_wp2_with fail
          go_ret
          exact ⟨-1, rfl, by omega, by omega, .inl (by omega), H1.out⟩
        · go_wp2_with fail
          go_roundg (gk - 1)
          case measure => omega
          case rel => exact ⟨H1.out, k + 1, r2, by omega, rfl, by go_num, by omega, by omega⟩
      · clear hd hbw
        go_wp2_with fail
        go_ret
        exact ⟨r, rfl, by omega, by omega, .inr (by omega), HW.out⟩
set_option maxHeartbeats 4000000 in
theorem eqColumnS_same (v v' : Value) (l : List RCol) (w : World) (h : Recs cEnc 4 w v l) (h' : Recs cEnc 4 w v' l) :
    Calls Tryd.prog 24 #[v, v'] w fun x w' => x = .returned (.bool true) ∧ Below w.heap.size w w' := by
  obtain ⟨a, cap, rfl, hl, hcap, -, hd⟩ := h
  obtain ⟨a', cap', rfl, hl', hcap', -, hd'⟩ := h'
  go_enter Tryd.func24, Tryd.ntmps24
  go_wp2_with fail
  go_loopg [5] l.length (fun gk s5 wr => Below w.heap.size w wr ∧ ∃ k : Nat, k + gk = l.length ∧ s5 = .int .i64 (k : Int))
  case atStart => exact ⟨Below.refl _ _, 0, by omega, rfl⟩
  case round =>
    obtain ⟨hbw, k, hk, rfl⟩ := hrel
    have HW := hide hbw
    by_cases hlt : k < l.length
    · obtain ⟨b, off, rfl, hbb, hcell⟩ := hd.resolve_left (by rintro rfl; simp at hlt)
      obtain ⟨b', off', rfl, hbb', hcell'⟩ := hd'.resolve_left (by rintro rfl; simp at hlt)
      have e := fun z : BW wr => at4 (fun j u hu => (z.h.cell (p := ⟨b, _, none⟩) (Nat.lt_of_lt_of_le hbb hbw.size)).trans ((hbw.cell (p := ⟨b, _, none⟩) hbb).trans (hcell k hlt j u hu)))
      have f := fun z : BW wr => at4 (fun j u hu => (z.h.cell (p := ⟨b', _, none⟩) (Nat.lt_of_lt_of_le hbb' hbw.size)).trans ((hbw.cell (p := ⟨b', _, none⟩) hbb').trans (hcell' k hlt j u hu)))
      clear hcell hd hcell' hd' hbw
      generalize l[k] = x at *
      have e0 := fun z => (e z).1
      have f0 := fun z => (f z).1
      have e1 := fun z => (e z).2.1
      have f1 := fun z => (f z).2.1
      have e2 := fun z => (e z).2.2.1
      have f2 := fun z => (f z).2.2.1
      have e3 := fun z => (e z).2.2.2
      have f3 := fun z => (f z).2.2.2
      clear e f
      go_wp2_with fail
      refine wp_region_bw (by kernel_rfl) (by kernel_rfl) ?_
      repeat (go_big_quiet_step (first | (go_at_call 64; with_reducible exact bw_of (eqColumn_same x _))))
      refine wpQuiet_nil ?_
      rintro _ ⟨z, rfl⟩
      have H1 : Hid (Below w.heap.size w z.v) := HW.out.trans (z.h.mono HW.out.size)
      go_wp2_with fail
      go_roundg (gk - 1)
      case measure => omega
      case rel => exact ⟨H1.out, k + 1, by omega, by go_num⟩
    · clear hd hd' hbw
      go_wp2_with fail
      go_ret
      exact ⟨rfl, HW.out⟩
set_option maxHeartbeats 8000000 in
theorem toColumnS_any (v : Value) (l : List RCol) (w : World) (h : Recs cEnc 4 w v l) (hn : l.length ≤ 1048576) :
    Calls Tryd.prog 22 #[v] w fun e w' => ∃ v', e = .returned v' ∧ OwnR cEnc 4 27 w.heap.size w' v' l ∧ Below w.heap.size w w' ∧ ∃ a, v' = .slice (some a) l.length l.length := by
  obtain ⟨a, cap, rfl, hl, hcap, -, hd⟩ := h
  obtain ⟨i0, hi, hz0, hz1, hz2⟩ := info_parts infoC
  obtain ⟨cs0, hcs0, hmk⟩ : ∃ cs0 : Array Value, cs0.size = l.length * 4 ∧ ∀ W : World, (Instr.makeSlice 23 (.int .i64 (l.length : Int)) (.int .i64 (l.length : Int))).run Tryd.prog W = .ok (.slice (some ⟨W.heap.size, 0, none⟩) l.length l.length) (W.alloc (.cells cs0 27)) :=
    ⟨madeCells (Value.cells (.agg #[.int .i64 0, .int .i64 0, .int .i64 0, .string ⟨#[]⟩])) (l.length * i0.size), by rw [size_madeCells, hz1], fun W => run_make_rowN _ _ i0 _ Tryd.underlying23 hi hz0 .i64 .i64 l.length l.length (Nat.le_refl _) (by rw [hz2]; omega) (by omega) W⟩
  have HC0 := hide hcs0
  clear hcs0 hi hz0 hz1 hz2
  go_enter Tryd.func22, Tryd.ntmps22
  go_wp2_with fail
  clear hmk
  go_loopg [4] l.length (fun gk s4 wr => Below w.heap.size w wr ∧ ∃ (k : Nat) (cs : Array Value), k + gk = l.length ∧ s4 = .int .i64 (k : Int) ∧ cs.size = l.length * 4 ∧ wr.heap[w.heap.size]? = some (.cells cs 27 (0, 0)) ∧ ArrR cEnc 4 cs l k)
  case atStart => exact ⟨(Below.refl _ _).alloc (Nat.le_refl _) _, 0, cs0, by omega, rfl, HC0.out, blk_alloc w _, fun j hj => by omega⟩
  case round =>
    obtain ⟨hbw, k, cs, hk, rfl, hsz, hblk, harr⟩ := hrel
    have HW := hide hbw
    have HB := hide hblk
    have HA := hide harr
    have HZ := hide hsz
    clear hblk harr hsz HC0
    by_cases hlt : k < l.length
    · obtain ⟨b, off, rfl, hbb, hcell⟩ := hd.resolve_left (by rintro rfl; simp at hlt)
      have e := at4 (fun j u hu => (hbw.cell (p := ⟨b, _, none⟩) hbb).trans (hcell k hlt j u hu))
      have HA' := hide (HA.out.step (by decide) cEnc_len hlt (by rw [HZ.out]; omega))
      clear hcell hd hbw HA
      generalize l[k] = x at *
      obtain ⟨e0, e1, e2, e3⟩ := e
      go_wp2_with fail
      with_reducible refine (toColumn_any x _).mono ?_
      rintro e' w1 ⟨rfl, hb1⟩
      have B1 := hide (blk_own hb1 HB.out)
      have H1 : Hid (Below w.heap.size w w1) := HW.out.trans (hb1.mono HW.out.size)
      clear hb1
      have y0 : ∃ u, w1.cell? ⟨w.heap.size, k * 4, none⟩ = some u := ⟨_, by rw [cell_block B1.out]; exact Array.getElem?_eq_getElem (by rw [HZ.out]; omega)⟩
      obtain ⟨u0, y0⟩ := y0
      have f0 := froz_block B1.out (k * 4)
      have y1 : ∃ u, w1.cell? ⟨w.heap.size, k * 4 + 1, none⟩ = some u := ⟨_, by rw [cell_block B1.out]; exact Array.getElem?_eq_getElem (by rw [HZ.out]; omega)⟩
      obtain ⟨u1, y1⟩ := y1
      have f1 := froz_block B1.out (k * 4 + 1)
      have y2 : ∃ u, w1.cell? ⟨w.heap.size, k * 4 + 2, none⟩ = some u := ⟨_, by rw [cell_block B1.out]; exact Array.getElem?_eq_getElem (by rw [HZ.out]; omega)⟩
      obtain ⟨u2, y2⟩ := y2
      have f2 := froz_block B1.out (k * 4 + 2)
      have y3 : ∃ u, w1.cell? ⟨w.heap.size, k * 4 + 3, none⟩ = some u := ⟨_, by rw [cell_block B1.out]; exact Array.getElem?_eq_getElem (by rw [HZ.out]; omega)⟩
      obtain ⟨u3, y3⟩ := y3
      have f3 := froz_block B1.out (k * 4 + 3)
      go_wp2_with fail
      go_roundg (gk - 1)
      case measure => omega
      case rel => exact ⟨((((H1.out.setCell (by simp) _).setCell (by simp) _).setCell (by simp) _).setCell (by simp) _), k + 1, _, by omega, by go_num, by simp [HZ.out], (set_block (set_block (set_block (set_block B1.out _ _) _ _) _ _) _ _), HA'.out⟩
    · have hkl : k = l.length := by omega
      subst hkl
      have HV : Hid (OwnR cEnc 4 27 w.heap.size wr (.slice (some ⟨w.heap.size, 0, none⟩) l.length l.length) l) := own_arr (by decide) cEnc_len (Nat.le_refl _) HB.out HA.out HZ.out hn
      clear hd hbw
      go_wp2_with fail
      go_ret
      exact ⟨_, rfl, HV.out, HW.out, _, rfl⟩
set_option maxHeartbeats 4000000 in
theorem szChangeS_any (v : Value) (l : List RChg) (left : Int) (w : World) (h : Recs hEnc 6 w v l) (ho : ∀ x ∈ l, okH x) (h0 : 0 ≤ left) (h1 : left ≤ 1048576) :
    Calls Tryd.prog 41 #[v, .int .i64 left] w (SzN w left l.length) := by
  obtain ⟨a, cap, rfl, hl, hcap, -, hd⟩ := h
  have HO := hide ho
  clear ho
  by_cases c1 : left - (l.length : Int) < 0
  · have hw : IntKind.i64.wrap (left - (l.length : Int)) = left - (l.length : Int) := by rw [IntKind.wrap_i64]; omega
    clear hd
    go_enter Tryd.func41, Tryd.ntmps41
    go_wp2_with fail
    go_ret
    exact ⟨-1, rfl, by omega, by omega, .inl (by omega), Below.refl _ _⟩
  · have hw : IntKind.i64.wrap (left - (l.length : Int)) = left - (l.length : Int) := by rw [IntKind.wrap_i64]; omega
    go_enter Tryd.func41, Tryd.ntmps41
    go_wp2_with fail
    clear hw
    go_loopg [1, 5] l.length (fun gk s1 s5 wr => Below w.heap.size w wr ∧ ∃ (k : Nat) (r : Int), k + gk = l.length ∧ s1 = .int .i64 r ∧ s5 = .int .i64 (k : Int) ∧ 0 ≤ r ∧ r ≤ left - (l.length : Int))
    case atStart => exact ⟨Below.refl _ _, 0, _, by omega, rfl, rfl, by omega, by omega⟩
    case round =>
      obtain ⟨hbw, k, r, hk, rfl, rfl, hr0, hr1⟩ := hrel
      have HW := hide hbw
      by_cases hlt : k < l.length
      · obtain ⟨b, off, rfl, hbb, hcell⟩ := hd.resolve_left (by rintro rfl; simp at hlt)
        have e := at6 (fun j u hu => (hbw.cell (p := ⟨b, _, none⟩) hbb).trans (hcell k hlt j u hu))
        have OX := hide (HO.out _ (List.getElem_mem hlt))
        generalize l[k] = x at *
        obtain ⟨e0, e1, e2, e3, e4, e5⟩ := e
        clear hd hcell hbw
        go_wp2_with fail
        with_reducible refine (szChange_any x r _ OX.out hr0 (by omega)).mono ?_
        rintro e w1 ⟨r2, rfl, q0, q1, hb1⟩
        have H1 : Hid (Below w.heap.size w w1) := HW.out.trans (hb1.mono HW.out.size)
        clear hb1
        by_cases hr : r2 < 0
        · go_wp2_with fail
          go_ret
          exact ⟨-1, rfl, by omega, by omega, .inl (by omega), H1.out⟩
        · go_wp2_with fail
          go_roundg (gk - 1)
          case measure => omega
          case rel => exact ⟨H1.out, k + 1, r2, by omega, rfl, by go_num, by omega, by omega⟩
      · clear hd hbw
        go_wp2_with fail
        go_ret
        exact ⟨r, rfl, by omega, by omega, .inr (by omega), HW.out⟩
set_option maxHeartbeats 4000000 in
theorem eqChangeS_same (v v' : Value) (l : List RChg) (w : World) (h : Recs hEnc 6 w v l) (h' : Recs hEnc 6 w v' l) :
    Calls Tryd.prog 44 #[v, v'] w fun x w' => x = .returned (.bool true) ∧ Below w.heap.size w w' := by
  obtain ⟨a, cap, rfl, hl, hcap, -, hd⟩ := h
  obtain ⟨a', cap', rfl, hl', hcap', -, hd'⟩ := h'
  go_enter Tryd.func44, Tryd.ntmps44
  go_wp2_with fail
  go_loopg [5] l.length (fun gk s5 wr => Below w.heap.size w wr ∧ ∃ k : Nat, k + gk = l.length ∧ s5 = .int .i64 (k : Int))
  case atStart => exact ⟨Below.refl _ _, 0, by omega, rfl⟩
  case round =>
    obtain ⟨hbw, k, hk, rfl⟩ := hrel
    have HW := hide hbw
    by_cases hlt : k < l.length
    · obtain ⟨b, off, rfl, hbb, hcell⟩ := hd.resolve_left (by rintro rfl; simp at hlt)
      obtain ⟨b', off', rfl, hbb', hcell'⟩ := hd'.resolve_left (by rintro rfl; simp at hlt)
      have e := fun z : BW wr => at6 (fun j u hu => (z.h.cell (p := ⟨b, _, none⟩) (Nat.lt_of_lt_of_le hbb hbw.size)).trans ((hbw.cell (p := ⟨b, _, none⟩) hbb).trans (hcell k hlt j u hu)))
      have f := fun z : BW wr => at6 (fun j u hu => (z.h.cell (p := ⟨b', _, none⟩) (Nat.lt_of_lt_of_le hbb' hbw.size)).trans ((hbw.cell (p := ⟨b', _, none⟩) hbb').trans (hcell' k hlt j u hu)))
      clear hcell hd hcell' hd' hbw
      generalize l[k] = x at *
      have e0 := fun z => (e z).1
      have f0 := fun z => (f z).1
      have e1 := fun z => (e z).2.1
      have f1 := fun z => (f z).2.1
      have e2 := fun z => (e z).2.2.1
      have f2 := fun z => (f z).2.2.1
      have e3 := fun z => (e z).2.2.2.1
      have f3 := fun z => (f z).2.2.2.1
      have e4 := fun z => (e z).2.2.2.2.1
      have f4 := fun z => (f z).2.2.2.2.1
      have e5 := fun z => (e z).2.2.2.2.2
      have f5 := fun z => (f z).2.2.2.2.2
      clear e f
      go_wp2_with fail
      refine wp_region_bw (by kernel_rfl) (by kernel_rfl) ?_
      repeat (go_big_quiet_step (first | (go_at_call 78; with_reducible exact bw_of (eqChange_same x _))))
      refine wpQuiet_nil ?_
      rintro _ ⟨z, rfl⟩
      have H1 : Hid (Below w.heap.size w z.v) := HW.out.trans (z.h.mono HW.out.size)
      go_wp2_with fail
      go_roundg (gk - 1)
      case measure => omega
      case rel => exact ⟨H1.out, k + 1, by omega, by go_num⟩
    · clear hd hd' hbw
      go_wp2_with fail
      go_ret
      exact ⟨rfl, HW.out⟩
set_option maxHeartbeats 8000000 in
theorem toChangeS_any (v : Value) (l : List RChg) (w : World) (h : Recs hEnc 6 w v l) (hn : l.length ≤ 1048576) :
    Calls Tryd.prog 42 #[v] w fun e w' => ∃ v', e = .returned v' ∧ OwnR hEnc 6 29 w.heap.size w' v' l ∧ Below w.heap.size w w' ∧ ∃ a, v' = .slice (some a) l.length l.length := by
  obtain ⟨a, cap, rfl, hl, hcap, -, hd⟩ := h
  obtain ⟨i0, hi, hz0, hz1, hz2⟩ := info_parts infoH
  obtain ⟨cs0, hcs0, hmk⟩ : ∃ cs0 : Array Value, cs0.size = l.length * 6 ∧ ∀ W : World, (Instr.makeSlice 49 (.int .i64 (l.length : Int)) (.int .i64 (l.length : Int))).run Tryd.prog W = .ok (.slice (some ⟨W.heap.size, 0, none⟩) l.length l.length) (W.alloc (.cells cs0 29)) :=
    ⟨madeCells (Value.cells (.agg #[.int .i64 0, .int .i64 0, .int .i64 0, .int .i64 0, .int .i64 0, .string ⟨#[]⟩])) (l.length * i0.size), by rw [size_madeCells, hz1], fun W => run_make_rowN _ _ i0 _ Tryd.underlying49 hi hz0 .i64 .i64 l.length l.length (Nat.le_refl _) (by rw [hz2]; omega) (by omega) W⟩
  have HC0 := hide hcs0
  clear hcs0 hi hz0 hz1 hz2
  go_enter Tryd.func42, Tryd.ntmps42
  go_wp2_with fail
  clear hmk
  go_loopg [4] l.length (fun gk s4 wr => Below w.heap.size w wr ∧ ∃ (k : Nat) (cs : Array Value), k + gk = l.length ∧ s4 = .int .i64 (k : Int) ∧ cs.size = l.length * 6 ∧ wr.heap[w.heap.size]? = some (.cells cs 29 (0, 0)) ∧ ArrR hEnc 6 cs l k)
  case atStart => exact ⟨(Below.refl _ _).alloc (Nat.le_refl _) _, 0, cs0, by omega, rfl, HC0.out, blk_alloc w _, fun j hj => by omega⟩
  case round =>
    obtain ⟨hbw, k, cs, hk, rfl, hsz, hblk, harr⟩ := hrel
    have HW := hide hbw
    have HB := hide hblk
    have HA := hide harr
    have HZ := hide hsz
    clear hblk harr hsz HC0
    by_cases hlt : k < l.length
    · obtain ⟨b, off, rfl, hbb, hcell⟩ := hd.resolve_left (by rintro rfl; simp at hlt)
      have e := at6 (fun j u hu => (hbw.cell (p := ⟨b, _, none⟩) hbb).trans (hcell k hlt j u hu))
      have HA' := hide (HA.out.step (by decide) hEnc_len hlt (by rw [HZ.out]; omega))
      clear hcell hd hbw HA
      generalize l[k] = x at *
      obtain ⟨e0, e1, e2, e3, e4, e5⟩ := e
      go_wp2_with fail
      with_reducible refine (toChange_any x _).mono ?_
      rintro e' w1 ⟨rfl, hb1⟩
      have B1 := hide (blk_own hb1 HB.out)
      have H1 : Hid (Below w.heap.size w w1) := HW.out.trans (hb1.mono HW.out.size)
      clear hb1
      have y0 : ∃ u, w1.cell? ⟨w.heap.size, k * 6, none⟩ = some u := ⟨_, by rw [cell_block B1.out]; exact Array.getElem?_eq_getElem (by rw [HZ.out]; omega)⟩
      obtain ⟨u0, y0⟩ := y0
      have f0 := froz_block B1.out (k * 6)
      have y1 : ∃ u, w1.cell? ⟨w.heap.size, k * 6 + 1, none⟩ = some u := ⟨_, by rw [cell_block B1.out]; exact Array.getElem?_eq_getElem (by rw [HZ.out]; omega)⟩
      obtain ⟨u1, y1⟩ := y1
      have f1 := froz_block B1.out (k * 6 + 1)
      have y2 : ∃ u, w1.cell? ⟨w.heap.size, k * 6 + 2, none⟩ = some u := ⟨_, by rw [cell_block B1.out]; exact Array.getElem?_eq_getElem (by rw [HZ.out]; omega)⟩
      obtain ⟨u2, y2⟩ := y2
      have f2 := froz_block B1.out (k * 6 + 2)
      have y3 : ∃ u, w1.cell? ⟨w.heap.size, k * 6 + 3, none⟩ = some u := ⟨_, by rw [cell_block B1.out]; exact Array.getElem?_eq_getElem (by rw [HZ.out]; omega)⟩
      obtain ⟨u3, y3⟩ := y3
      have f3 := froz_block B1.out (k * 6 + 3)
      have y4 : ∃ u, w1.cell? ⟨w.heap.size, k * 6 + 4, none⟩ = some u := ⟨_, by rw [cell_block B1.out]; exact Array.getElem?_eq_getElem (by rw [HZ.out]; omega)⟩
      obtain ⟨u4, y4⟩ := y4
      have f4 := froz_block B1.out (k * 6 + 4)
      have y5 : ∃ u, w1.cell? ⟨w.heap.size, k * 6 + 5, none⟩ = some u := ⟨_, by rw [cell_block B1.out]; exact Array.getElem?_eq_getElem (by rw [HZ.out]; omega)⟩
      obtain ⟨u5, y5⟩ := y5
      have f5 := froz_block B1.out (k * 6 + 5)
      go_wp2_with fail
      go_roundg (gk - 1)
      case measure => omega
      case rel => exact ⟨((((((H1.out.setCell (by simp) _).setCell (by simp) _).setCell (by simp) _).setCell (by simp) _).setCell (by simp) _).setCell (by simp) _), k + 1, _, by omega, by go_num, by simp [HZ.out], (set_block (set_block (set_block (set_block (set_block (set_block B1.out _ _) _ _) _ _) _ _) _ _) _ _), HA'.out⟩
    · have hkl : k = l.length := by omega
      subst hkl
      have HV : Hid (OwnR hEnc 6 29 w.heap.size wr (.slice (some ⟨w.heap.size, 0, none⟩) l.length l.length) l) := own_arr (by decide) hEnc_len (Nat.le_refl _) HB.out HA.out HZ.out hn
      clear hd hbw
      go_wp2_with fail
      go_ret
      exact ⟨_, rfl, HV.out, HW.out, _, rfl⟩
end Go.Proofs.YtdijcdadcbhipaaDoor
