/-
  The reader of the generators: newReader, pick, one: what each returns, and that it writes its own block alone.
-/
import Derived.Test.YtdijcdadcbhipaaDoorRows
import Derived.Test.YtdijcdadcbhipaaDoorBase
import Derived.Test.YtdijcdadcbhipaaDoorRange
set_option linter.all false
namespace Go.Proofs.YtdijcdadcbhipaaDoor
open Go.RowKit
/-- the reader at block g, p numbers drawn -/
def Rd (w : World) (g : Nat) (p : Int) : Prop :=
  ∃ a len cap, w.heap[g]? = some (.cells #[.slice a len cap, .int .i64 p] 111 (0, 0)) ∧ len ≤ 2000 ∧ ByteRow w a len g ∧ 0 ≤ p ∧ p ≤ 1000000000
theorem newReader_any (v : Value) (w : World) (h : BytesAt w v) :
    Calls Tryd.prog 51 #[v] w fun e w' => ∃ g, e = .returned (.pointer (some ⟨g, 0, none⟩)) ∧ w.heap.size ≤ g ∧ Rd w' g 0 ∧ Below w.heap.size w w' := by
  obtain ⟨a, len, cap, rfl, hlc, hcap, hr⟩ := h
  have hnew : ∀ (l' : Nat) (o : Obj), l' ≤ len → ByteRow (w.alloc o) a l' w.heap.size := fun l' o hl' => by
    have h1 := hr.keep ((Below.refl w.heap.size w).alloc (Nat.le_refl _) o) (Nat.le_refl _)
    rcases h1 with h1 | ⟨b, off, e, hlt, hc⟩
    · exact .inl (by omega)
    · exact .inr ⟨b, off, e, hlt, fun i hi => hc i (by omega)⟩
  by_cases hl : len ≤ 2000
  · go_enter Tryd.func51, Tryd.ntmps51
    go_wp2
    go_ret
    exact ⟨w.heap.size, rfl, Nat.le_refl _, ⟨a, len, cap, blk_alloc _ _, hl, hnew _ _ (Nat.le_refl _), by omega, by omega⟩, (Below.refl _ _).alloc (Nat.le_refl _) _⟩
  · rcases hr with h0 | ⟨b, off, rfl, hlt, hc⟩
    · omega
    · clear hc
      go_enter Tryd.func51, Tryd.ntmps51
      go_wp2
      go_ret
      exact ⟨w.heap.size, rfl, Nat.le_refl _, ⟨_, 2000, cap, blk_alloc _ _, by omega, hnew _ _ (by omega), by omega, by omega⟩, (Below.refl _ _).alloc (Nat.le_refl _) _⟩
theorem rd_bump {w : World} {g : Nat} {p : Int} {a : Option Addr} {len cap : Nat} (hb : w.heap[g]? = some (.cells #[.slice a len cap, .int .i64 p] 111 (0, 0))) (hl : len ≤ 2000) (hr : ByteRow w a len g) (hp0 : 0 ≤ p) (hp : p < 1000000000) :
    Rd (w.setCell ⟨g, 1, none⟩ (.int .i64 (p + 1))) g (p + 1) ∧ w.grownBy (w.setCell ⟨g, 1, none⟩ (.int .i64 (p + 1))) (some g) :=
  ⟨⟨a, len, cap, by rw [set_block hb]; rfl, hl, hr.keepBy (grown_setCell _ _ _ _) (Nat.le_refl _) (lt_block hb), by omega, by omega⟩, grown_setCell _ _ _ _⟩
/-- what a pick's number is good for -/
def InN (n r : Int) : Prop := 0 ≤ r ∧ (1 ≤ n → r < n)
def PickPost (w : World) (g : Nat) (p n : Int) (e : Ending) (w' : World) : Prop := ∃ r, e = .returned (.int .i64 r) ∧ InN n r ∧ Rd w' g (p + 1) ∧ w.grownBy w' (some g)
theorem pick_end {w w' : World} {g : Nat} {p n r : Int} (h : Rd w' g (p + 1) ∧ w.grownBy w' (some g)) (hr : 0 ≤ r ∧ (1 ≤ n → r < n)) : PickPost w g p n (.returned (.int .i64 r)) w' := ⟨r, rfl, hr, h.1, h.2⟩
set_option maxHeartbeats 1000000 in
theorem pick_any (g : Nat) (p n : Int) (w : World) (h : Rd w g p) (hp : p < 1000000000) :
    Calls Tryd.prog 79 #[.pointer (some ⟨g, 0, none⟩), .int .i64 n] w (PickPost w g p n) := by
  obtain ⟨a, len, cap, hb, hl, hr, hp0, hp1⟩ := h
  have R := hide (rd_bump hb hl hr hp0 hp)
  have c0 := cell_block hb 0
  have c1 := cell_block hb 1
  have f1 := froz_block hb 1
  simp at c0 c1
  have hg := lt_block hb
  clear hb
  by_cases hn : n < 1
  · clear hr
    go_enter Tryd.func79, Tryd.ntmps79
    go_wp2
    go_ret
    exact pick_end R.out (by omega)
  · by_cases h0 : len = 0
    · clear hr
      subst h0
      go_enter Tryd.func79, Tryd.ntmps79
      go_wp2
      go_ret
      exact pick_end R.out (by omega)
    · obtain ⟨b, off, rfl, hbg, hc⟩ := hr.resolve_left h0
      obtain ⟨q, rfl⟩ : ∃ q : Nat, p = (q : Int) := ⟨p.toNat, by omega⟩
      have hne : ((len : Int) == 0) = false := by simp; omega
      by_cases hq : q < len
      · obtain ⟨x, hx, hx0, hx1⟩ := hc q hq
        have hx' : (w.setCell ⟨g, 1, none⟩ (.int .i64 ((q : Int) + 1))).cell? ⟨b, off + q, none⟩ = some (.int .u8 x) := by
          rw [World.cell?_of_block (a := ⟨b, off + q, none⟩) (Below.heap_setCell w ⟨g, 1, none⟩ _ b (by simp; omega))]; exact hx
        clear hc hr
        go_enter Tryd.func79, Tryd.ntmps79
        go_wp2
        go_ret
        exact pick_end R.out ⟨Int.emod_nonneg _ (by omega), fun _ => Int.emod_lt_of_pos _ (by omega)⟩
      · have hlp : 0 < len := by omega
        obtain ⟨i, ei⟩ : ∃ i : Nat, i = q % len := ⟨_, rfl⟩
        obtain ⟨j, ej⟩ : ∃ j : Nat, j = (q * 7 + 3) % len := ⟨_, rfl⟩
        obtain ⟨m, em⟩ : ∃ m : Nat, m = q / len := ⟨_, rfl⟩
        have hi : i < len := by rw [ei]; exact Nat.mod_lt _ hlp
        have hj : j < len := by rw [ej]; exact Nat.mod_lt _ hlp
        have hm : m ≤ q := by rw [em]; exact Nat.div_le_self _ _
        have ti : (q : Int).tmod (len : Int) = (i : Int) := by rw [ei]; rfl
        have tj : ((q : Int) * 7 + 3).tmod (len : Int) = (j : Int) := by rw [ej]; rfl
        have tm : (q : Int).tdiv (len : Int) = (m : Int) := by rw [em]; rfl
        clear ei ej em
        obtain ⟨x, hx, hx0, hx1⟩ := hc i hi
        obtain ⟨y, hy, hy0, hy1⟩ := hc j hj
        have hx' : (w.setCell ⟨g, 1, none⟩ (.int .i64 ((q : Int) + 1))).cell? ⟨b, off + i, none⟩ = some (.int .u8 x) := by
          rw [World.cell?_of_block (a := ⟨b, off + i, none⟩) (Below.heap_setCell w ⟨g, 1, none⟩ _ b (by simp; omega))]; exact hx
        have hy' : (w.setCell ⟨g, 1, none⟩ (.int .i64 ((q : Int) + 1))).cell? ⟨b, off + j, none⟩ = some (.int .u8 y) := by
          rw [World.cell?_of_block (a := ⟨b, off + j, none⟩) (Below.heap_setCell w ⟨g, 1, none⟩ _ b (by simp; omega))]; exact hy
        have i1 : (i : Int) < (len : Int) := by omega
        have j1 : (j : Int) < (len : Int) := by omega
        have e1 : IntKind.i64.wrap ((q : Int) * 7) = (q : Int) * 7 := IntWalk.i64_in _ (by omega)
        have e2 : IntKind.i64.wrap ((q : Int) * 7 + 3) = (q : Int) * 7 + 3 := IntWalk.i64_in _ (by omega)
        have e3 : IntKind.i64.wrap (x * 131) = x * 131 := IntWalk.i64_in _ (by omega)
        have e4 : IntKind.i64.wrap (y * 1117) = y * 1117 := IntWalk.i64_in _ (by omega)
        have e5 : IntKind.i64.wrap (x * 131 + y * 1117) = x * 131 + y * 1117 := IntWalk.i64_in _ (by omega)
        have e6 : IntKind.i64.wrap ((q : Int) * 29) = (q : Int) * 29 := IntWalk.i64_in _ (by omega)
        have e7 : IntKind.i64.wrap (x * 131 + y * 1117 + (q : Int) * 29) = x * 131 + y * 1117 + (q : Int) * 29 := IntWalk.i64_in _ (by omega)
        have e8 : IntKind.i64.wrap ((m : Int) * 53) = (m : Int) * 53 := IntWalk.i64_in _ (by omega)
        have e9 : IntKind.i64.wrap (x * 131 + y * 1117 + (q : Int) * 29 + (m : Int) * 53) = x * 131 + y * 1117 + (q : Int) * 29 + (m : Int) * 53 := IntWalk.i64_in _ (by omega)
        clear hc hr
        go_enter Tryd.func79, Tryd.ntmps79
        go_wp2
        go_quiet (fail)
        go_wp2
        go_ret
        exact pick_end ⟨R.out.1, grown_drewN R.out.2 _⟩ (tmod_bd (xor_nonneg (by omega) (by omega) (by omega) (by omega)) (by omega))
/-- a slice of numbers that the caller has made: 'one' returns one of them -/
def IntRow (w : World) (v : Value) (xs : List Int) : Prop := ∃ b cap, v = .slice (some ⟨b, 0, none⟩) xs.length cap ∧ b < w.heap.size ∧ ∀ i (h : i < xs.length), w.cell? ⟨b, i, none⟩ = some (.int .i64 xs[i])
def OnePost (w : World) (g : Nat) (p : Int) (xs : List Int) (e : Ending) (w' : World) : Prop := ∃ r, e = .returned (.int .i64 r) ∧ r ∈ xs ∧ Rd w' g (p + 1) ∧ w.grownBy w' (some g)
set_option maxHeartbeats 1000000 in
theorem one_any (g : Nat) (p : Int) (v : Value) (xs : List Int) (w : World) (h : Rd w g p) (hp : p < 1000000000) (hv : IntRow w v xs) (hg : ∀ b c, v = .slice (some ⟨b, 0, none⟩) xs.length c → b ≠ g) (hxs : 0 < xs.length) (hxl : xs.length < 1000) :
    Calls Tryd.prog 81 #[.pointer (some ⟨g, 0, none⟩), v] w (OnePost w g p xs) := by
  obtain ⟨b, cap, rfl, hb, hc⟩ := hv
  have hbg := hg b cap rfl
  clear hg
  go_enter Tryd.func81, Tryd.ntmps81
  go_wp2_with fail
  refine (pick_any g p xs.length w h hp).mono ?_
  rintro e w1 ⟨r, rfl, hr, hR, hgr⟩
  obtain ⟨i, rfl⟩ : ∃ i : Nat, r = (i : Int) := ⟨r.toNat, by have := hr.1; omega⟩
  have hi : i < xs.length := by have := hr.2 (by omega); omega
  have hci : w1.cell? ⟨b, i, none⟩ = some (.int .i64 xs[i]) := by
    rw [World.cell?_of_block (a := ⟨b, i, none⟩) (hgr.block b hb (fun e => hbg (by injection e)))]; exact hc i hi
  have hm : Hid (xs[i] ∈ xs) := List.getElem_mem hi
  have HR := hide hR
  have HG := hide hgr
  clear hc hR hgr
  generalize xs[i] = y at *
  go_wp2
  go_ret
  exact ⟨y, rfl, hm.out, HR.out, HG.out⟩
theorem Rd.lt {w : World} {g : Nat} {p : Int} (h : Rd w g p) : g < w.heap.size := by obtain ⟨_, _, _, hb, _⟩ := h; exact lt_block hb
theorem Rd.keep {w w' : World} {g C : Nat} {p : Int} (h : Rd w g p) (hb : Below C w w') (hg : g < C) : Rd w' g p := by
  obtain ⟨a, len, cap, h1, h2, h3, h4, h5⟩ := h
  exact ⟨a, len, cap, (hb.block g hg).trans h1, h2, h3.keep hb (by omega), h4, h5⟩
theorem Rd.alloc {w : World} {g : Nat} {p : Int} (h : Rd w g p) (o : Obj) : Rd (w.alloc o) g p := h.keep ((Below.refl w.heap.size w).alloc (Nat.le_refl _) o) h.lt
theorem Rd.drewN {w : World} {g : Nat} {p : Int} (h : Rd w g p) (n : Nat) : Rd (w.drewN n) g p := h
theorem Rd.keepBy {w w' : World} {g j : Nat} {p : Int} (h : Rd w g p) (hb : w.grownBy w' (some j)) (hj : g < j) : Rd w' g p := by
  obtain ⟨a, len, cap, h1, h2, h3, h4, h5⟩ := h
  have hlt := lt_block h1
  refine ⟨a, len, cap, (hb.block g hlt (fun e => by injection e with e; omega)).trans h1, h2, ?_, h4, h5⟩
  rcases h3 with h3 | ⟨b, off, e, hb', hc⟩
  · exact .inl h3
  · exact .inr ⟨b, off, e, hb', fun i hi => by
      obtain ⟨x, hx, h1, h2⟩ := hc i hi
      exact ⟨x, (World.cell?_of_block (a := ⟨b, off + i, none⟩) (hb.block b (by omega) (fun e => by injection e with e; omega))).trans hx, h1, h2⟩⟩
theorem introw {w : World} {b cap : Nat} {t : TypeId} {f : Nat × Nat} {xs : List Int} (h : w.heap[b]? = some (.cells (xs.map (Value.int .i64)).toArray t f)) : IntRow w (.slice (some ⟨b, 0, none⟩) xs.length cap) xs :=
  ⟨b, cap, rfl, lt_block h, fun i hi => by rw [cell_block h]; simp [hi]⟩
/-- 'one' of a row of numbers that the caller has just made -/
theorem one_lit (g : Nat) (p : Int) (b cap : Nat) (t : TypeId) (xs : List Int) (w : World) (h : Rd w g p) (hp : p < 1000000000) (hb : w.heap[b]? = some (.cells (xs.map (Value.int .i64)).toArray t (0, 0))) (hg : b ≠ g) (hxs : 0 < xs.length) (hxl : xs.length < 1000) :
    Calls Tryd.prog 81 #[.pointer (some ⟨g, 0, none⟩), .slice (some ⟨b, 0, none⟩) xs.length cap] w (OnePost w g p xs) :=
  one_any g p _ xs w h hp (introw hb) (fun b' c e => by injection e with e _ _; injection e with e; injection e with e _ _; omega) hxs hxl
end Go.Proofs.YtdijcdadcbhipaaDoor
