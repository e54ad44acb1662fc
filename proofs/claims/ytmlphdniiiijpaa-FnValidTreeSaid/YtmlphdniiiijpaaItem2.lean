/-
  valid, validItem, lessItem, compareItems.
-/
import Derived.Test.YtmlphdniiiijpaaItem
import Derived.Test.YtmlphdniiiijpaaRange
import Derived.Deep.LoopGhost
import Derived.Deep.RegionHeld3
set_option linter.all false
namespace Go.Proofs.Ytmlphdniiiijpaa
open Go.RowKit
def okI (e : Itm) : Bool := decide ((0 ≤ e.k ∧ e.k ≤ 999999) ∧ (0 ≤ e.r ∧ e.r ≤ 99))
def lessI (a b : Itm) : Bool := decide (a.k < b.k ∨ a.k = b.k ∧ a.r < b.r)
def cmpZ (a b : Int) : Int := if a < b then -1 else if b < a then 1 else 0
def orZ (a b : Int) : Int := if a = 0 then b else a
def cmpI (a b : Itm) : Int := if cmpZ a.k b.k = 0 then cmpZ a.r b.r else cmpZ a.k b.k
theorem cmpI_less (a b : Itm) : lessI a b = !decide (0 ≤ cmpI a b) := by
  unfold lessI cmpI cmpZ
  by_cases h1 : a.k < b.k
  · simp [h1]
  · by_cases h2 : b.k < a.k
    · have h3 : ¬ a.k = b.k := by omega
      simp [h1, h2, h3]
    · have h3 : a.k = b.k := by omega
      by_cases h4 : a.r < b.r
      · simp [h3, h4]
      · by_cases h5 : b.r < a.r
        · simp [h3, h4, h5]
        · simp [h3, h4, h5]
theorem blk_drew0 {W : World} {b : Nat} {o : Obj} (h : W.heap[b]? = some o) : W.drew.heap[b]? = some o := h
theorem below_box (w : World) (o : Obj) : Below w.heap.size w (w.alloc o) := (Below.refl _ _).alloc (Nat.le_refl _) _
theorem below_box2 (w : World) (o o' : Obj) : Below w.heap.size w ((w.alloc o).alloc o') := (below_box w o).alloc (by simp) _
set_option maxHeartbeats 2000000 in
theorem ivalid_any (e : Itm) (w : World) :
    Calls Try.prog 67 #[.agg #[.int .i64 e.k, .int .i64 e.r]] w fun x w' => x = .returned (.bool (okI e)) ∧ Below w.heap.size w w' := by
  by_cases h1 : 0 ≤ e.k
  · have d1 : decide (0 ≤ e.k) = true := decide_eq_true h1
    by_cases h2 : e.k ≤ 999999
    · have d2 : decide (e.k ≤ 999999) = true := decide_eq_true h2
      by_cases h3 : 0 ≤ e.r
      · have d3 : decide (0 ≤ e.r) = true := decide_eq_true h3
        go_enter Try.func67, Try.ntmps67
        go_wp2_with fail
        all_goals go_ret
        all_goals exact ⟨ret_bool (by simp [okI, h1, h2, h3]), below_box _ _⟩
      · have d3 : decide (0 ≤ e.r) = false := decide_eq_false h3
        go_enter Try.func67, Try.ntmps67
        go_wp2_with fail
        all_goals go_ret
        all_goals exact ⟨ret_bool (decide_eq_false (by omega)).symm, below_box _ _⟩
    · have d2 : decide (e.k ≤ 999999) = false := decide_eq_false h2
      go_enter Try.func67, Try.ntmps67
      go_wp2_with fail
      all_goals go_ret
      all_goals exact ⟨ret_bool (decide_eq_false (by omega)).symm, below_box _ _⟩
  · have d1 : decide (0 ≤ e.k) = false := decide_eq_false h1
    go_enter Try.func67, Try.ntmps67
    go_wp2_with fail
    all_goals go_ret
    all_goals exact ⟨ret_bool (decide_eq_false (by omega)).symm, below_box _ _⟩
set_option maxHeartbeats 2000000 in
theorem svalidItem_any (e : Itm) (w : World) :
    Calls Try.prog 69 #[.agg #[.int .i64 e.k, .int .i64 e.r]] w fun x w' => x = .returned (.bool (okI e)) ∧ Below w.heap.size w w' := by
  by_cases h1 : 0 ≤ e.k ∧ e.k ≤ 999999
  · go_enter Try.func69, Try.ntmps69
    go_wp2_with fail
    refine (inRange_any e.k 0 999999 _).mono ?_
    rintro x w1 ⟨rfl, rfl⟩
    rw [decide_eq_true h1]
    go_wp2_with fail
    refine (inRange_any e.r 0 99 _).mono ?_
    rintro x w2 ⟨rfl, rfl⟩
    go_wp2_with fail
    go_ret
    exact ⟨ret_bool (by simp [okI, h1]), below_box _ _⟩
  · go_enter Try.func69, Try.ntmps69
    go_wp2_with fail
    refine (inRange_any e.k 0 999999 _).mono ?_
    rintro x w1 ⟨rfl, rfl⟩
    rw [decide_eq_false h1]
    go_wp2_with fail
    go_ret
    exact ⟨ret_bool (by unfold okI; rw [decide_eq_false]; exact fun h => h1 h.1), below_box _ _⟩
set_option maxHeartbeats 2000000 in
theorem slessItem_any (a b : Itm) (w : World) :
    Calls Try.prog 72 #[.agg #[.int .i64 a.k, .int .i64 a.r], .agg #[.int .i64 b.k, .int .i64 b.r]] w fun x w' => x = .returned (.bool (lessI a b)) ∧ Below w.heap.size w w' := by
  by_cases h1 : a.k < b.k
  · have d1 : decide (a.k < b.k) = true := decide_eq_true h1
    go_enter Try.func72, Try.ntmps72
    go_wp2_with fail
    all_goals go_ret
    all_goals exact ⟨ret_bool (by simp [lessI, h1]), below_box2 _ _ _⟩
  · have d1 : decide (a.k < b.k) = false := decide_eq_false h1
    by_cases h2 : a.k = b.k
    · have d2 : (a.k == b.k) = true := by simp [h2]
      by_cases h3 : a.r < b.r
      · have d3 : decide (a.r < b.r) = true := decide_eq_true h3
        go_enter Try.func72, Try.ntmps72
        go_wp2_with fail
        all_goals go_ret
        all_goals exact ⟨ret_bool (by simp [lessI, h1, h2, h3]), below_box2 _ _ _⟩
      · have d3 : decide (a.r < b.r) = false := decide_eq_false h3
        go_enter Try.func72, Try.ntmps72
        go_wp2_with fail
        all_goals go_ret
        all_goals exact ⟨ret_bool (by simp [lessI, h1, h2, h3]), below_box2 _ _ _⟩
    · have d2 : (a.k == b.k) = false := by simpa using h2
      go_enter Try.func72, Try.ntmps72
      go_wp2_with fail
      all_goals go_ret
      all_goals exact ⟨ret_bool (by simp [lessI, h1, h2]), below_box2 _ _ _⟩
theorem isNaN_any (x : Int) (w : World) :
    Calls Try.prog 83 #[.int .i64 x] w fun e w' => e = .returned (.bool false) ∧ w = w' := by
  go_enter Try.func83, Try.ntmps83
  go_wp2_with fail
  go_ret
  exact ⟨by first | rfl | simp, rfl⟩
set_option maxHeartbeats 2000000 in
theorem compare_any (x y : Int) (w : World) :
    Calls Try.prog 74 #[.int .i64 x, .int .i64 y] w fun e w' => e = .returned (.int .i64 (cmpZ x y)) ∧ w = w' := by
  by_cases h1 : x < y
  · go_enter Try.func74, Try.ntmps74
    go_wp2_with fail
    refine (isNaN_any x w).mono ?_
    rintro e w1 ⟨rfl, rfl⟩
    go_wp2_with fail
    refine (isNaN_any y w).mono ?_
    rintro e w1 ⟨rfl, rfl⟩
    go_wp2_with fail
    go_ret
    exact ⟨ret_int (by simp [cmpZ, h1]), rfl⟩
  · by_cases h2 : y < x
    · go_enter Try.func74, Try.ntmps74
      go_wp2_with fail
      refine (isNaN_any x w).mono ?_
      rintro e w1 ⟨rfl, rfl⟩
      go_wp2_with fail
      refine (isNaN_any y w).mono ?_
      rintro e w1 ⟨rfl, rfl⟩
      go_wp2_with fail
      go_ret
      exact ⟨ret_int (by simp [cmpZ, h1, h2]), rfl⟩
    · have N1 := hide h1
      have N2 := hide h2
      go_enter Try.func74, Try.ntmps74
      go_wp2_with fail
      refine (isNaN_any x w).mono ?_
      rintro e w1 ⟨rfl, rfl⟩
      go_wp2_with fail
      refine (isNaN_any y w).mono ?_
      rintro e w1 ⟨rfl, rfl⟩
      go_wp2_with fail
      go_ret
      exact ⟨ret_int (by have q1 := N1.out; have q2 := N2.out; unfold cmpZ; rw [if_neg (by omega), if_neg (by omega)]), rfl⟩
set_option maxHeartbeats 2000000 in
theorem or_any (g cap : Nat) (a b : Int) (w : World) (c0 : w.cell? ⟨g, 0, none⟩ = some (.int .i64 a)) (c1 : w.cell? ⟨g, 1, none⟩ = some (.int .i64 b)) :
    Calls Try.prog 73 #[.slice (some ⟨g, 0, none⟩) 2 cap] w fun e w' => e = .returned (.int .i64 (orZ a b)) ∧ w = w' := by
  have C0 := hide c0
  have C1 := hide c1
  clear c0 c1
  obtain ⟨R, hR⟩ : ∃ R, R = if a = 0 then b else a := ⟨_, rfl⟩
  rw [show orZ a b = R from hR.symm]
  have HR := hide hR
  clear hR
  go_enter Try.func73, Try.ntmps73
  go_wp2_with fail
  go_loopg [8] 2 (fun gk s8 wr => wr = w ∧ ∃ k : Nat, k + gk = 2 ∧ s8 = .int .i64 (k : Int) ∧ (0 < k → a = 0) ∧ (1 < k → b = 0))
  case atStart => exact ⟨rfl, 0, by omega, rfl, by omega, by omega⟩
  case round =>
    obtain ⟨rfl, k, hk, rfl, ha, hb⟩ := hrel
    have HA := hide ha
    have HB := hide hb
    clear ha hb
    have hk3 : k = 0 ∨ k = 1 ∨ k = 2 := by omega
    rcases hk3 with rfl | rfl | rfl
    · have c0 := C0.out
      by_cases h : a = 0
      · have d : (a == 0) = true := by simp [h]
        go_wp2_with fail
        go_roundg (gk - 1)
        case measure => omega
        case rel => exact ⟨rfl, 1, by omega, by go_num, fun _ => h, by omega⟩
      · have d : (a == 0) = false := by simpa using h
        go_wp2_with fail
        go_ret
        exact ⟨ret_int (by rw [HR.out, if_neg h]), rfl⟩
    · have c1 := C1.out
      have ha := HA.out (by omega)
      by_cases h : b = 0
      · have d : (b == 0) = true := by simp [h]
        go_wp2_with fail
        go_roundg (gk - 1)
        case measure => omega
        case rel => exact ⟨rfl, 2, by omega, by go_num, fun _ => ha, fun _ => h⟩
      · have d : (b == 0) = false := by simpa using h
        go_wp2_with fail
        go_ret
        exact ⟨ret_int (by rw [HR.out, if_pos ha]), rfl⟩
    · have ha := HA.out (by omega)
      have hb := HB.out (by omega)
      go_wp2_with fail
      go_ret
      exact ⟨ret_int (by rw [HR.out, if_pos ha, hb]), rfl⟩
set_option maxHeartbeats 4000000 in
theorem compareItems_any (a b : Itm) (w : World) :
    Calls Try.prog 55 #[.agg #[.int .i64 a.k, .int .i64 a.r], .agg #[.int .i64 b.k, .int .i64 b.r]] w fun x w' => x = .returned (.int .i64 (cmpI a b)) ∧ Below w.heap.size w w' := by
  obtain ⟨R, hR⟩ : ∃ R, R = cmpI a b := ⟨_, rfl⟩
  rw [← hR]
  have HR := hide hR
  clear hR
  go_enter Try.func55, Try.ntmps55
  go_wp2_with fail
  generalize hA : (.cells #[.int .i64 a.k, .int .i64 a.r] 38 : Obj) = OA
  generalize hB : (.cells #[.int .i64 b.k, .int .i64 b.r] 38 : Obj) = OB
  have hBA : Hid (((w.alloc OA).alloc OB).heap[w.heap.size]? = some (.cells #[.int .i64 a.k, .int .i64 a.r] 38 (0, 0))) := by rw [← hA]; exact blk_keep (blk_alloc w _) _
  have hBB : Hid (((w.alloc OA).alloc OB).heap[w.heap.size + 1]? = some (.cells #[.int .i64 b.k, .int .i64 b.r] 38 (0, 0))) := by rw [← hB]; exact blk_at (by simp) _
  have HBW := hide (below_box2 w OA OB)
  have hsz : Hid (((w.alloc OA).alloc OB).heap.size = w.heap.size + 2) := by simp [Hid]
  generalize (w.alloc OA).alloc OB = W at *
  clear hA hB
  have S0 := hide (And.intro (cell_block hBA.out 0) (And.intro (cell_block hBA.out 1) (And.intro (cell_block hBB.out 0) (cell_block hBB.out 1))))
  have S1 := hide (fun o => And.intro (cell_block (blk_keep hBA.out o) 0) (And.intro (cell_block (blk_keep hBA.out o) 1) (And.intro (cell_block (blk_keep hBB.out o) 0) (cell_block (blk_keep hBB.out o) 1))))
  go_region_held3 (fun w' => w'.cell? ⟨w.heap.size, 0, none⟩ = some (.int .i64 a.k) ∧ w'.cell? ⟨w.heap.size, 1, none⟩ = some (.int .i64 a.r) ∧ w'.cell? ⟨w.heap.size + 1, 0, none⟩ = some (.int .i64 b.k) ∧ w'.cell? ⟨w.heap.size + 1, 1, none⟩ = some (.int .i64 b.r)) (first | exact S0.out | exact S1.out _) (first
    | (go_at_call 74; refine (compare_any _ _ _).mono ?_; rintro e w1 ⟨rfl, rfl⟩)
    | (go_at_call 73; refine (or_any _ 2 (cmpZ a.k b.k) (cmpZ a.r b.r) _ (by first | exact cell_block (blk_alloc W.drew _) 0 | exact cell_block (blk_drew0 (blk_alloc W _)) 0) (by first | exact cell_block (blk_alloc W.drew _) 1 | exact cell_block (blk_drew0 (blk_alloc W _)) 1)).mono ?_; rintro e w1 ⟨rfl, rfl⟩))
  all_goals
    go_wp2_with fail
    go_ret
    exact ⟨ret_int (by rw [HR.out]; rfl), by first | exact (HBW.out.drew).alloc (by have := hsz.out; simp; omega) _ | exact (HBW.out.alloc (by have := hsz.out; omega) _).drew⟩
end Go.Proofs.Ytmlphdniiiijpaa
