/-
  randomStore, someUntil, spoil, cellAt, CellsAt of the generators.
-/
import Derived.Test.YtnicjpfkiblimaaCk2
set_option linter.all false
namespace Go.Proofs.Ytnicjpfkiblimaa
open Go.RowKit
theorem own_off {B size n g : Nat} {e : TypeId} {w w' : World} {v : Value} {xs : List Value} (h : w.ownsRow B e size v n xs) (hg : w.grownBy w' (some g)) (hB : g < B) : w'.ownsRow B e size v n xs :=
  World.ownsRow.kept h hg (by
    cases hv : v.ownBlock with
    | none => exact .inl rfl
    | some k => exact .inr (fun e => by injection e with e; have := (World.ownsRow.lt h k hv).1; omega))
theorem nilOk_own {B size n : Nat} {e : TypeId} {w : World} {v : Value} {xs : List Value} (h : w.ownsRow B e size v n xs) : NilOk v := fun n' c e => by
  rcases h.2 with ⟨rfl, _⟩ | ⟨g, cap, cur, rfl, _⟩
  · injection e with _ _ e; exact e.symm
  · cases e
/-- numbers that can be read, from block B on -/
def NmB (B : Nat) (w : World) (v : Value) (ns : List Int) : Prop := Nums w v ns ∧ NilOk v ∧ ∀ a n c, v = .slice (some a) n c → ns ≠ [] → B ≤ a.block
theorem OwnN.nmB {B : Nat} {w : World} {v : Value} {ns : List Int} (h : OwnN B w v ns) : NmB B w v ns := ⟨h.nums, nilOk_own h, fun a n c e _ => (World.ownsRow.lt h a.block (by rw [e]; rfl)).1⟩
theorem NmB.keep {B : Nat} {w w' : World} {v : Value} {ns : List Int} (h : NmB B w v ns) (hb : Below w.heap.size w w') : NmB B w' v ns := ⟨h.1.keep hb, h.2⟩
theorem NmB.mono {B B' : Nat} {w : World} {v : Value} {ns : List Int} (h : NmB B w v ns) (hb : B' ≤ B) : NmB B' w v ns := ⟨h.1, h.2.1, fun a n c e hn => Nat.le_trans hb (h.2.2 a n c e hn)⟩
theorem NmB.by {B g : Nat} {w w' : World} {v : Value} {ns : List Int} (h : NmB B w v ns) (hg : w.grownBy w' (some g)) (hB : g < B) : NmB B w' v ns := by
  refine ⟨?_, h.2⟩
  obtain ⟨⟨a, cap, rfl, h1, h2, hd⟩, -, ho⟩ := h
  refine ⟨a, cap, rfl, h1, h2, ?_⟩
  rcases hd with hd | ⟨b, off, rfl, hb, hc⟩
  · exact .inl hd
  · by_cases hn : ns = []
    · exact .inl hn
    · have hbB := ho _ _ _ rfl hn
      simp only at hbB
      exact .inr ⟨b, off, rfl, Nat.lt_of_lt_of_le hb hg.size, fun i hi => (World.cell?_of_block (a := ⟨b, off + i, none⟩) (hg.block b hb (fun e => by injection e with e; omega))).trans (hc i hi)⟩
theorem one_num {w : World} {g : Nat} {x : Int} {ty : TypeId} {f : Nat × Nat} (h : w.heap[g]? = some (.cells #[.int .i64 x] ty f)) : Nums w (.slice (some ⟨g, 0, none⟩) 1 1) [x] :=
  ⟨_, 1, rfl, Nat.le_refl 1, by omega, .inr ⟨g, 0, rfl, lt_block h, fun i hi => by
    have : i = 0 := by simp at hi; exact hi
    subst this
    rw [cell_block h]; rfl⟩⟩
theorem grown_own {a b c : World} {g B : Nat} {row : Option Nat} (h : a.grownBy b (some g)) (k : b.grownBy c row) (hr : ∀ j, row = some j → a.heap.size ≤ j) : a.grownBy c (some g) :=
  ⟨k.os.trans h.os, k.tape.trans h.tape, k.output.trans h.output, Nat.le_trans h.size k.size, fun i hi hn => (k.block i (Nat.lt_of_lt_of_le hi h.size) (fun e => by have := hr i e.symm; omega)).trans (h.block i hi hn)⟩
/-- numbers that a generator gathers -/
structure DN (w wr : World) (g : Nat) (v : Value) (ns : List Int) (q : Int) : Prop where
  rd : Rd wr g q
  gr : w.grownBy wr (some g)
  ow : OwnN w.heap.size wr v ns
  hg : g < w.heap.size
section
variable {w wr wj : World} {g : Nat} {v v' : Value} {ns ns' : List Int} {q q' : Int}
theorem DN.by (h : DN w wr g v ns q) (hg : wr.grownBy wj (some g)) (hr : Rd wj g q') : DN w wj g v ns q' := ⟨hr, grown_trans h.gr hg, own_off h.ow hg h.hg, h.hg⟩
theorem DN.keep (h : DN w wr g v ns q) (hb : Below wr.heap.size wr wj) : DN w wj g v ns q := ⟨h.rd.keep hb h.rd.lt, grown_trans h.gr (grown_below hb _), h.ow.keep hb, h.hg⟩
theorem DN.app (h : DN w wr g v ns q) (hg : wr.grownBy wj v.ownBlock) (ho : OwnN w.heap.size wj v' ns') : DN w wj g v' ns' q := by
  have hlt : ∀ j, v.ownBlock = some j → w.heap.size ≤ j := fun j e => (World.ownsRow.lt h.ow j e).1
  have hb : Below w.heap.size wr wj := (Below.refl _ _).grown hg h.gr.size hlt
  exact ⟨h.rd.keep hb h.hg, grown_own (B := 0) h.gr hg hlt, ho, h.hg⟩
end
/-- what randomStore hands back -/
def RSPost (w : World) (g : Nat) (p : Int) (e : Ending) (w' : World) : Prop := ∃ v ns q, e = .returned v ∧ DN w w' g v ns q ∧ (1 ≤ ns.length ∧ ns.length ≤ 6) ∧ (p ≤ q ∧ q ≤ p + 10)
set_option maxHeartbeats 4000000 in
theorem randomStore_any (g : Nat) (p : Int) (w : World) (h : Rd w g p) (hp : p < 900000000) :
    Calls Try.prog 37 #[.pointer (some ⟨g, 0, none⟩)] w (RSPost w g p) := by
  have hg := h.lt
  have HD0 : Hid (DN w (w.alloc (.cells #[] 3)) g (.slice (some ⟨w.heap.size, 0, none⟩) 0 0) [] p) := ⟨h.alloc _, grown_below (below_box w _) _, lit_num rfl (Nat.le_refl _), hg⟩
  clear h
  go_enter Try.func37, Try.ntmps37
  go_wp2_with fail
  refine (one_lit g p _ 5 _ [3, 2, 4, 1, 6] _ (HD0.out.rd.alloc _) (by omega) (blk_at (by simp) _) (by omega) (by decide) (by decide)).mono ?_
  rintro e w1 ⟨n, rfl, hm, hr1, hgr⟩
  have HD1 := hide ((HD0.out.keep (below_box _ _)).by hgr hr1)
  obtain ⟨m, rfl⟩ : ∃ m : Nat, n = (m : Int) := ⟨n.toNat, by simp at hm; omega⟩
  have hm6 : 1 ≤ m ∧ m ≤ 6 := by simp at hm; omega
  obtain ⟨hm1, hm6⟩ := hm6
  clear hm hr1 hgr HD0
  go_wp2_with fail
  go_loopg [3, 4] m (fun gk s3 s4 wr => s4 = .int .i64 (gk : Nat) ∧ gk ≤ m ∧ ∃ ns q, DN w wr g s3 ns q ∧ ns.length + gk = m ∧ p ≤ q ∧ q + (gk : Nat) ≤ p + 8)
  case atStart => exact ⟨rfl, Nat.le_refl _, [], _, HD1.out, by simp, by omega, by omega⟩
  case round =>
    clear HD1
    obtain ⟨rfl, hgk, ns, q, hd, hl, hq0, hq1⟩ := hrel
    have HD := hide hd
    obtain ⟨oa, oc, rfl, -⟩ := own_shape hd.ow
    clear hd
    by_cases h0 : gk = 0
    · subst h0
      go_wp2_with fail
      go_ret
      exact ⟨_, ns, q, rfl, HD.out, by omega, by omega⟩
    · have hgk0 : (0 : Int) < (gk : Int) := by omega
      go_wp2_with fail
      refine (pick_any g q 50 _ HD.out.rd (by omega)).mono ?_
      rintro e w2 ⟨x, rfl, -, hr2, hgr⟩
      have HD2 := hide (HD.out.by hgr hr2)
      have hs2 := HD2.out.gr.size
      clear hr2 hgr HD
      go_wp2_with (at_builtin; refine wpList_appN rfl (.tmp 13) (.tmp 16) rfl w.heap.size _ ns rfl (HD2.out.ow.keep (below_box w2 _)) (by omega) _ [x] rfl (one_num (blk_alloc w2 _)) (fun _ _ e => by cases e) (by simp) (by simp; omega) ?next)
      case next =>
        intro v8 w8 ho hg8
        have HD8 := hide ((HD2.out.keep (below_box w2 _)).app hg8 ho)
        clear ho hg8
        go_wp2_with fail
        go_roundg (gk - 1)
        case measure => omega
        case rel => exact ⟨by go_num, by omega, _, _, HD8.out, by simp; omega, by omega, by omega⟩
/-- what someUntil hands back -/
def SUPost (w : World) (g : Nat) (p : Int) (n : Nat) (e : Ending) (w' : World) : Prop := ∃ v ns q, e = .returned v ∧ DN w w' g v ns q ∧ ns.length = n ∧ (p ≤ q ∧ q ≤ p + n)
set_option maxHeartbeats 4000000 in
theorem someUntil_any (g : Nat) (p : Int) (a : Option Addr) (n c : Nat) (a' : Option Addr) (n' c' : Nat) (w : World) (h : Rd w g p) (hp : p < 900000000) (hn : n ≤ 100) (hn' : n' ≤ 100) :
    Calls Try.prog 21 #[.pointer (some ⟨g, 0, none⟩), .slice a n c, .slice a' n' c'] w (SUPost w g p n) := by
  have hg := h.lt
  have HD0 : Hid (DN w (w.alloc (.cells #[] 3)) g (.slice (some ⟨w.heap.size, 0, none⟩) 0 0) [] p) := ⟨h.alloc _, grown_below (below_box w _) _, lit_num rfl (Nat.le_refl _), hg⟩
  clear h
  go_enter Try.func21, Try.ntmps21
  go_wp2_with fail
  go_loopg [7, 8] n (fun gk s7 s8 wr => ∃ k : Nat, k + gk = n ∧ s8 = .int .i64 (k : Int) ∧ ∃ ns q, DN w wr g s7 ns q ∧ ns.length = k ∧ p ≤ q ∧ q ≤ p + (k : Nat))
  case atStart => exact ⟨0, by omega, rfl, [], _, HD0.out, by simp, by omega, by omega⟩
  case round =>
    clear HD0
    obtain ⟨k, hk, rfl, ns, q, hd, hl, hq0, hq1⟩ := hrel
    have HD := hide hd
    obtain ⟨oa, oc, rfl, -⟩ := own_shape hd.ow
    have HL := hide hl
    have hlk : ns.length ≤ 100 := by omega
    clear hd hl
    by_cases hlt : k < n
    · go_wp2_with fail
      refine (pick_any g q ((n' : Int) + 1) _ HD.out.rd (by omega)).mono ?_
      rintro e w2 ⟨x, rfl, -, hr2, hgr⟩
      have HD2 := hide (HD.out.by hgr hr2)
      have hs2 := HD2.out.gr.size
      clear hr2 hgr HD
      go_wp2_with (at_builtin; refine wpList_appN rfl (.tmp 16) (.tmp 22) rfl w.heap.size _ ns rfl (HD2.out.ow.keep (below_box w2 _)) (by omega) _ [x] rfl (one_num (blk_alloc w2 _)) (fun _ _ e => by cases e) (by simp) (by simp; omega) ?next)
      case next =>
        intro v8 w8 ho hg8
        have HD8 := hide ((HD2.out.keep (below_box w2 _)).app hg8 ho)
        clear ho hg8
        go_wp2_with fail
        go_roundg (gk - 1)
        case measure => omega
        case rel => exact ⟨k + 1, by omega, by go_num, _, _, HD8.out, by simp; exact HL.out, by omega, by omega⟩
    · have HK : Hid (k = n) := hide (by omega)
      go_wp2_with fail
      go_ret
      exact ⟨_, ns, q, rfl, HD.out, by rw [HL.out, HK.out], by have := HK.out; omega⟩
/-- what spoil hands back -/
def SPPost (w : World) (g : Nat) (p : Int) (n : Nat) (e : Ending) (w' : World) : Prop := ∃ v ns q, e = .returned v ∧ NmB w.heap.size w' v ns ∧ ns.length ≤ n + 1 ∧ Rd w' g q ∧ (p ≤ q ∧ q ≤ p + 3) ∧ w.grownBy w' (some g)
theorem DN.spoilt {w wr : World} {g : Nat} {v : Value} {ns : List Int} {p q : Int} {n : Nat} (h : DN w wr g v ns q) (hl : ns.length ≤ n + 1) (hq : p ≤ q ∧ q ≤ p + 3) : SPPost w g p n (.returned v) wr := ⟨v, ns, q, rfl, h.ow.nmB, hl, h.rd, hq, h.gr⟩
theorem DN.set {w wr : World} {g : Nat} {gn n c : Nat} {ns : List Int} {q : Int} (h : DN w wr g (.slice (some ⟨gn, 0, none⟩) n c) ns q) (j : Nat) (x : Int) : DN w (wr.setCell ⟨gn, j, none⟩ (.int .i64 x)) g (.slice (some ⟨gn, 0, none⟩) n c) (ns.set j x) q := by
  have hlt := (World.ownsRow.lt h.ow gn rfl).1
  have hb : Below w.heap.size wr (wr.setCell ⟨gn, j, none⟩ (.int .i64 x)) := (Below.refl _ _).setCell hlt _
  exact ⟨h.rd.keep hb h.hg, grown_own (B := 0) h.gr (grown_setCell wr gn j _) (fun k e => by injection e with e; omega), h.ow.stored j x, h.hg⟩
set_option maxHeartbeats 8000000 in
theorem spoil_any (g : Nat) (p : Int) (v : Value) (l : List Int) (n : Int) (w : World) (h : Rd w g p) (hp : p < 900000000) (hv : Nums w v l) (hnil : NilOk v) (hl : l.length ≤ 100) :
    Calls Try.prog 32 #[.pointer (some ⟨g, 0, none⟩), v, .int .i64 n] w (SPPost w g p l.length) := by
  have hg := h.lt
  have HR := hide h
  have HV := hide hv
  have HNL := hide hnil
  obtain ⟨a, cap, rfl, -⟩ := hv
  clear h hnil
  go_enter Try.func32, Try.ntmps32
  go_wp2_with fail
  refine (copyN_any _ l w HV.out HNL.out (by omega)).mono ?_
  rintro e w1 ⟨v1, rfl, ho, hb⟩
  have HD1 : Hid (DN w w1 g v1 l p) := ⟨HR.out.keep hb hg, grown_below hb _, ho, hg⟩
  obtain ⟨oa, oc, rfl, hoc, hoc2⟩ := own_shape ho
  clear ho hb HR HV HNL
  go_wp2_with fail
  refine (pick_any g p 20 _ HD1.out.rd (by omega)).mono ?_
  rintro e w2 ⟨m, rfl, -, hr2, hgr⟩
  have HD2 := hide (HD1.out.by hgr hr2)
  have hs2 := HD2.out.gr.size
  clear hr2 hgr HD1
  by_cases m0 : m = 0
  · subst m0
    go_wp2_with (at_builtin; refine wpList_appN rfl (.tmp 14) (.tmp 16) rfl w.heap.size _ l rfl (HD2.out.ow.keep (below_box w2 _)) (by omega) _ [n] rfl (one_num (blk_alloc w2 _)) (fun _ _ e => by cases e) (by simp) (by simp; omega) ?next)
    case next =>
      intro v8 w8 ho hg8
      have HD8 := hide ((HD2.out.keep (below_box w2 _)).app hg8 ho)
      obtain ⟨ra, rc, rfl, -⟩ := own_shape ho
      clear ho hg8
      go_wp2_with fail
      go_ret
      exact HD8.out.spoilt (by simp) (by omega)
  · have d0 : (m == 0) = false := beq_false_of_ne m0
    by_cases m1 : m = 1
    · subst m1
      clear m0 d0
      by_cases hl0 : l = []
      · subst hl0
        simp only [List.length_nil] at HD2 ⊢
        go_wp2_with fail
        go_ret
        exact HD2.out.spoilt (by simp) (by omega)
      · have hpos := List.length_pos_iff.2 hl0
        have hpos' : (0 : Int) < (l.length : Int) := by omega
        obtain ⟨gn, rfl⟩ : ∃ gn, oa = some ⟨gn, 0, none⟩ := by
          rcases HD2.out.ow.2 with ⟨e, h0⟩ | ⟨gn, c, cur, e, -⟩
          · exact absurd (List.length_eq_zero_iff.1 h0) hl0
          · injection e with e _ _; exact ⟨gn, e⟩
        have hgn := (World.ownsRow.lt HD2.out.ow gn rfl).1
        have HN0 := hide HD2.out.ow.nums
        have hone : (1 : Int) ≤ (l.length : Int) := by omega
        have hone' : 1 ≤ l.length := hpos
        have honec : 1 ≤ oc := by omega
        clear hl0
        by_cases hc1 : oc = 1
        · subst hc1
          have HP : Hid (SPPost w g p l.length (.returned (.slice (some ⟨gn, 0, none⟩) 0 0)) w2) := by
            refine ⟨_, [], p + 1, rfl, ⟨⟨_, 0, rfl, by simp, by omega, .inl rfl⟩, (fun _ _ e => by cases e), (fun _ _ _ _ h => absurd rfl h)⟩, by simp, HD2.out.rd, by omega, HD2.out.gr⟩
          clear HN0
          go_wp2_with fail
          go_ret
          exact HP.out
        · have HP : Hid (SPPost w g p l.length (.returned (.slice (some ⟨gn, 1, none⟩) (l.length - 1) (oc - 1))) w2) := by
            obtain ⟨a', c', he, h1, h2, hd⟩ := HN0.out
            injection he with he1 _ he3
            subst he1 he3
            have hdl : (l.drop 1).length = l.length - 1 := List.length_drop
            refine ⟨_, l.drop 1, p + 1, rfl, ⟨⟨some ⟨gn, 1, none⟩, oc - 1, by rw [hdl], by rw [hdl]; omega, by omega, .inr ⟨gn, 1, rfl, ?_, (fun i hi => ?_)⟩⟩, (fun _ _ e => by cases e), (fun a n c e _ => by injection e with e _ _; injection e with e; subst e; exact hgn)⟩, by rw [hdl]; omega, HD2.out.rd, by omega, HD2.out.gr⟩
            · obtain ⟨b, off, e, hb, -⟩ := hd.resolve_left (by rintro rfl; simp at hpos)
              injection e with e
              injection e with e _ _
              subst e; exact hb
            · obtain ⟨b, off, e, hb, hc⟩ := hd.resolve_left (by rintro rfl; simp at hpos)
              injection e with e
              injection e with e1 e2 _
              subst e1; subst e2
              rw [hdl] at hi
              have := hc (1 + i) (by omega)
              rw [Nat.zero_add] at this
              rw [List.getElem_drop]
              exact this
          clear HN0
          go_wp2_with fail
          go_ret
          exact HP.out
    · have d1 : (m == 1) = false := beq_false_of_ne m1
      by_cases m2 : m = 2
      · subst m2
        clear m0 m1 d0 d1
        by_cases hl0 : l = []
        · subst hl0
          simp only [List.length_nil] at HD2 ⊢
          go_wp2_with fail
          go_ret
          exact HD2.out.spoilt (by simp) (by omega)
        · have hpos := List.length_pos_iff.2 hl0
          have hpos' : (0 : Int) < (l.length : Int) := by omega
          obtain ⟨gn, rfl⟩ : ∃ gn, oa = some ⟨gn, 0, none⟩ := by
            rcases HD2.out.ow.2 with ⟨e, h0⟩ | ⟨gn, c, cur, e, -⟩
            · exact absurd (List.length_eq_zero_iff.1 h0) hl0
            · injection e with e _ _; exact ⟨gn, e⟩
          clear hl0
          go_wp2_with fail
          refine (pick_any g (p + 1) (l.length : Int) _ HD2.out.rd (by omega)).mono ?_
          rintro e w3 ⟨i, rfl, hi, hr3, hgr⟩
          have HD3 := hide (HD2.out.by hgr hr3)
          obtain ⟨i, rfl⟩ : ∃ i' : Nat, i = (i' : Int) := ⟨i.toNat, by have := hi.1; omega⟩
          have hil : i < l.length := by have := hi.2 (by omega); omega
          have hil' : (i : Int) < (l.length : Int) := by omega
          have hg3 := HD3.out.rd.lt
          clear hi hr3 hgr HD2
          go_wp2_with fail
          refine (one_lit g (p + 1 + 1) _ 4 _ [-1, n, 0, 1] _ (HD3.out.rd.alloc _) (by omega) (blk_alloc _ _) (by omega) (by simp) (by simp)).mono ?_
          rintro e w4 ⟨x, rfl, -, hr4, hgr⟩
          have HD4 := hide ((HD3.out.keep (below_box _ _)).by hgr hr4)
          have HS := hide (HD4.out.set i x)
          have n0 := HD4.out.ow.at hil
          have nf := HD4.out.ow.froz i
          clear hr4 hgr HD3
          go_wp2_with fail
          go_ret
          exact HS.out.spoilt (by simp) (by omega)
      · have d2 : (m == 2) = false := beq_false_of_ne m2
        clear m0 m1 m2
        go_wp2_with fail
        go_ret
        exact HD2.out.spoilt (by omega) (by omega)
end Go.Proofs.Ytnicjpfkiblimaa
