/-
  anyNotes, anyCells and the drawn arguments of CheckOf.
-/
import Derived.Test.YtnicjpfkiblimaaCk5
set_option linter.all false
namespace Go.Proofs.Ytnicjpfkiblimaa
open Go.RowKit
theorem notCells_set (l : List RNote) (k : Nat) (x : Int) (h : k < l.length) : (notCells l).set (k * 5 + 1) (.int .i64 x) = notCells (l.set k ⟨l[k].fin, x, l[k].thing, l[k].old, l[k].new⟩) := by
  induction l generalizing k with
  | nil => simp at h
  | cons y l ih =>
    cases k with
    | zero => rfl
    | succ k =>
      have := ih k (by simpa using h)
      show (.bool y.fin :: .int .i64 y.owner :: .int .i64 y.thing :: .int .i64 y.old :: .int .i64 y.new :: notCells l).set ((k + 1) * 5 + 1) _ = _
      rw [show (k + 1) * 5 + 1 = k * 5 + 1 + 1 + 1 + 1 + 1 + 1 by omega, List.set_cons_succ, List.set_cons_succ, List.set_cons_succ, List.set_cons_succ, List.set_cons_succ, this]
      rfl
theorem OwnNt.setOwner {B g n c k : Nat} {w : World} {l : List RNote} (h : OwnNt B w (.slice (some ⟨g, 0, none⟩) n c) l) (hk : k < l.length) (x : Int) :
    ∃ l' : List RNote, l'.length = l.length ∧ OwnNt B (w.setCell ⟨g, k * 5 + 1, none⟩ (.int .i64 x)) (.slice (some ⟨g, 0, none⟩) n c) l' := by
  refine ⟨l.set k ⟨l[k].fin, x, l[k].thing, l[k].old, l[k].new⟩, by simp, ?_⟩
  have hn : n = l.length := by
    rcases h.2 with ⟨e, _⟩ | ⟨g', cap', cur, e, _⟩
    · cases e
    · injection e
  subst hn
  have s := World.ownsRow.stored h (k * 5 + 1) (.int .i64 x)
  rw [notCells_set l k x hk] at s
  unfold OwnNt
  rw [List.length_set]
  exact s.1
/-- what anyNotes hands back -/
structure ANI (w wr : World) (g : Nat) (sv : Value) (s : List Int) (lv : Value) (l : List RNote) (q : Int) : Prop where
  rd : Rd wr g q
  gr : w.grownBy wr (some g)
  so : NmB w.heap.size wr sv s
  lo : OwnNt w.heap.size wr lv l
  hg : g < w.heap.size
  ls : s.length ≤ 7
  ll : l.length ≤ 21
section
variable {w wr wj : World} {g : Nat} {sv sv' lv lv' : Value} {s s' : List Int} {l l' : List RNote} {q q' : Int}
theorem ANI.by (h : ANI w wr g sv s lv l q) (hg : wr.grownBy wj (some g)) (hr : Rd wj g q') : ANI w wj g sv s lv l q' :=
  ⟨hr, grown_trans h.gr hg, h.so.by hg h.hg, own_off h.lo hg h.hg, h.hg, h.ls, h.ll⟩
theorem ANI.keep (h : ANI w wr g sv s lv l q) (hb : Below wr.heap.size wr wj) : ANI w wj g sv s lv l q :=
  ⟨h.rd.keep hb h.rd.lt, grown_trans h.gr (grown_below hb _), h.so.keep hb, h.lo.keep hb, h.hg, h.ls, h.ll⟩
end
/-- the same, the numbers owned -/
structure DO (w wr : World) (g : Nat) (sv : Value) (s : List Int) (lv : Value) (l : List RNote) (q : Int) : Prop where
  rd : Rd wr g q
  gr : w.grownBy wr (some g)
  so : OwnN w.heap.size wr sv s
  lo : OwnNt w.heap.size wr lv l
  hg : g < w.heap.size
section
variable {w wr wj : World} {g : Nat} {sv sv' lv lv' : Value} {s s' : List Int} {l l' : List RNote} {q q' : Int}
theorem DO.by (h : DO w wr g sv s lv l q) (hg : wr.grownBy wj (some g)) (hr : Rd wj g q') : DO w wj g sv s lv l q' :=
  ⟨hr, grown_trans h.gr hg, own_off h.so hg h.hg, own_off h.lo hg h.hg, h.hg⟩
theorem DO.keep (h : DO w wr g sv s lv l q) (hb : Below wr.heap.size wr wj) : DO w wj g sv s lv l q :=
  ⟨h.rd.keep hb h.rd.lt, grown_trans h.gr (grown_below hb _), h.so.keep hb, h.lo.keep hb, h.hg⟩
theorem DO.app (h : DO w wr g sv s lv l q) (hg : wr.grownBy wj lv.ownBlock) (ho : OwnNt w.heap.size wj lv' l') : DO w wj g sv s lv' l' q := by
  have hlt : ∀ j, lv.ownBlock = some j → w.heap.size ≤ j := fun j e => (World.ownsRow.lt h.lo j e).1
  have hb : Below w.heap.size wr wj := (Below.refl _ _).grown hg h.gr.size hlt
  refine ⟨h.rd.keep hb h.hg, grown_own (B := 0) h.gr hg hlt, World.ownsRow.kept h.so hg ?_, ho, h.hg⟩
  cases hv : sv.ownBlock with
  | none => exact .inl rfl
  | some k => exact .inr (fun e => own_types h.so h.lo hv e.symm)
theorem DO.ani (h : DO w wr g sv s lv l q) (hs : s.length ≤ 7) (hl : l.length ≤ 21) : ANI w wr g sv s lv l q := ⟨h.rd, h.gr, h.so.nmB, h.lo, h.hg, hs, hl⟩
end
theorem DO.owner {w wr : World} {g gl n c : Nat} {sv : Value} {s : List Int} {l : List RNote} {q : Int} {k : Nat} (h : DO w wr g sv s (.slice (some ⟨gl, 0, none⟩) n c) l q) (hk : k < l.length) (x : Int) :
    ∃ l' : List RNote, l'.length = l.length ∧ DO w (wr.setCell ⟨gl, k * 5 + 1, none⟩ (.int .i64 x)) g sv s (.slice (some ⟨gl, 0, none⟩) n c) l' q := by
  obtain ⟨l', e, ho⟩ := h.lo.setOwner hk x
  exact ⟨l', e, h.app (grown_setCell wr gl _ _) ho⟩
def ANPost (w : World) (g : Nat) (p : Int) (e : Ending) (w' : World) : Prop := ∃ sv s lv l q, e = .returned (.tuple #[sv, lv]) ∧ ANI w w' g sv s lv l q ∧ (p ≤ q ∧ q ≤ p + 130)
set_option maxHeartbeats 16000000 in
set_option maxRecDepth 100000 in
theorem anyNotes_any (g : Nat) (p : Int) (w : World) (h : Rd w g p) (hp : p < 800000000) :
    Calls Try.prog 19 #[.pointer (some ⟨g, 0, none⟩)] w (ANPost w g p) := by
  have hR := hide h
  have hg := h.lt
  clear h
  go_enter Try.func19, Try.ntmps19
  go_wp2_with fail
  refine (randomNotes_any g p w hR.out (by omega)).mono ?_
  rintro e w1 ⟨sv, s, lv, l, q, rfl, hso, hlo, ⟨hs1, hs6⟩, hl20, hrd, ⟨hq0, hq1⟩, hgr⟩
  have HA1 : Hid (DO w w1 g sv s lv l q) := ⟨hrd, hgr, hso, hlo, hg⟩
  obtain ⟨sa, sc, rfl, -⟩ := own_shape hso
  obtain ⟨la, lc, rfl, -⟩ := own_shape hlo
  clear hso hlo hrd hgr hR
  go_wp2_with fail
  refine (pick_any g q 20 _ HA1.out.rd (by omega)).mono ?_
  rintro e w2 ⟨m, rfl, -, hr2, hg2⟩
  have HA2 := hide (HA1.out.by hg2 hr2)
  have hs2 := HA2.out.gr.size
  clear hr2 hg2 HA1
  by_cases m0 : m = 0
  · subst m0
    go_wp2_with fail
    refine (spoil_any g (q + 1) _ s 1000000 _ HA2.out.rd (by omega) HA2.out.so.nums (nilOk_own HA2.out.so) (by omega)).mono ?_
    rintro e w3 ⟨sv', s', q', rfl, hn, hl', hr3, ⟨hq2, hq3⟩, hg3⟩
    have HF : Hid (ANI w w3 g sv' s' (.slice la l.length lc) l q') := ⟨hr3, grown_trans HA2.out.gr hg3, hn.mono hs2, own_off HA2.out.lo hg3 hg, hg, by omega, by omega⟩
    obtain ⟨ta, tc, rfl⟩ := num_shape hn.1
    clear hn hr3 hg3
    go_wp2_with fail
    go_ret2
    exact ⟨_, s', _, l, q', rfl, HF.out, by omega⟩
  · have d0 : (m == 0) = false := beq_false_of_ne m0
    by_cases m1 : m = 1
    · subst m1
      clear m0 d0
      go_wp2_with fail
      refine (one_lit g (q + 1) _ 3 _ [0, 8, -1] _ (HA2.out.rd.alloc _) (by omega) (blk_alloc _ _) (by have := HA2.out.rd.lt; omega) (by decide) (by decide)).mono ?_
      rintro e w3 ⟨x1, rfl, -, hr3, hg3⟩
      have HA3 := hide ((HA2.out.keep (below_box _ _)).by hg3 hr3)
      clear hr3 hg3 HA2
      go_wp2_with fail
      refine (one_lit g (q + 1 + 1) _ 4 _ [0, 1, 6, -1] _ (HA3.out.rd.alloc _) (by omega) (blk_alloc _ _) (by have := HA3.out.rd.lt; omega) (by decide) (by decide)).mono ?_
      rintro e w4 ⟨x2, rfl, -, hr4, hg4⟩
      have HA4 := hide ((HA3.out.keep (below_box _ _)).by hg4 hr4)
      clear hr4 hg4 HA3
      go_wp2_with fail
      refine (one_lit g (q + 1 + 1 + 1) _ 2 _ [5, 1000000] _ (HA4.out.rd.alloc _) (by omega) (blk_alloc _ _) (by have := HA4.out.rd.lt; omega) (by decide) (by decide)).mono ?_
      rintro e w5 ⟨x3, rfl, -, hr5, hg5⟩
      have HA5 := hide ((HA4.out.keep (below_box _ _)).by hg5 hr5)
      have hs5 := HA5.out.gr.size
      clear hr5 hg5 HA4
      go_wp2_with (at_builtin; refine wpList_appT rfl (.tmp 20) (.tmp 31) rfl w.heap.size _ l rfl (HA5.out.lo.keep (below_box w5 _)) (by omega) _ [⟨false, x1, x2, 0, x3⟩] rfl (one_note (e := ⟨false, x1, x2, 0, x3⟩) (blk_alloc w5 _)) (fun _ _ e => by cases e) (by simp) (by simp; omega) ?next)
      case next =>
        intro v8 w8 ho hg8
        have HA8 := hide ((HA5.out.keep (below_box w5 _)).app hg8 ho)
        obtain ⟨ra, rn, rc, rfl⟩ := own_form ho
        clear ho hg8
        go_wp2_with fail
        go_ret2
        exact ⟨_, s, _, _, _, rfl, HA8.out.ani (by omega) (by simp; omega), by omega⟩
    · have d1 : (m == 1) = false := beq_false_of_ne m1
      by_cases m2 : m = 2
      · subst m2
        clear m0 m1 d0 d1
        by_cases hl0 : l = []
        · subst hl0
          simp only [List.length_nil] at HA2 ⊢
          go_wp2_with fail
          go_ret2
          exact ⟨_, s, _, _, _, rfl, HA2.out.ani (by omega) (by simp), by omega⟩
        · have hpos := List.length_pos_iff.2 hl0
          have hpos' : (0 : Int) < (l.length : Int) := by omega
          obtain ⟨gl, rfl⟩ : ∃ gl, la = some ⟨gl, 0, none⟩ := by
            rcases HA2.out.lo.2 with ⟨e, h0⟩ | ⟨gl, c, cur, e, -⟩
            · exact absurd (List.length_eq_zero_iff.1 h0) hl0
            · injection e with e _ _; exact ⟨gl, e⟩
          clear hl0
          go_wp2_with fail
          refine (pick_any g (q + 1) (l.length : Int) _ HA2.out.rd (by omega)).mono ?_
          rintro e w3 ⟨i, rfl, hi, hr3, hg3⟩
          have HA3 := hide (HA2.out.by hg3 hr3)
          obtain ⟨i, rfl⟩ : ∃ i' : Nat, i = (i' : Int) := ⟨i.toNat, by have := hi.1; omega⟩
          have hil : i < l.length := by have := hi.2 (by omega); omega
          have hil' : (i : Int) < (l.length : Int) := by omega
          clear hi hr3 hg3 HA2
          go_wp2_with fail
          refine (pick_any g (q + 1 + 1) 4 _ HA3.out.rd (by omega)).mono ?_
          rintro e w4 ⟨x, rfl, -, hr4, hg4⟩
          have HA4 := hide (HA3.out.by hg4 hr4)
          clear hr4 hg4 HA3
          obtain ⟨l', hl', hdo⟩ := HA4.out.owner hil x
          have HD := hide hdo
          have HL' := hide hl'
          have n0 : ∃ u, w4.cell? ⟨gl, i * 5 + 1, none⟩ = some u := by
            rw [World.ownsRow.cellAt HA4.out.lo _ (by omega)]
            have := notCells_len l
            rw [List.getElem?_eq_getElem (by omega)]
            exact ⟨_, rfl⟩
          obtain ⟨u0, n0⟩ := n0
          have nf := World.ownsRow.frozenAt HA4.out.lo (i * 5 + 1)
          clear hl' hdo
          go_wp2_with fail
          go_ret2
          exact ⟨_, s, _, l', _, rfl, HD.out.ani (by omega) (by rw [HL'.out]; omega), by omega⟩
      · have d2 : (m == 2) = false := beq_false_of_ne m2
        clear m0 m1 m2
        go_wp2_with fail
        go_ret2
        exact ⟨_, s, _, l, _, rfl, HA2.out.ani (by omega) (by omega), by omega⟩
/-- what a number stored leaves of cells -/
theorem celCells_set2 (l : List RCell) (x y : Int) (h : 0 < l.length) : ((celCells l).set 0 (.int .i64 x)).set 1 (.int .i64 y) = celCells (l.set 0 ⟨x, y⟩) := by
  cases l with
  | nil => simp at h
  | cons c l => rfl
theorem OwnCl.setFirst {B g n c : Nat} {w : World} {l : List RCell} (h : OwnCl B w (.slice (some ⟨g, 0, none⟩) n c) l) (hk : 0 < l.length) (x y : Int) :
    OwnCl B ((w.setCell ⟨g, 0, none⟩ (.int .i64 x)).setCell ⟨g, 1, none⟩ (.int .i64 y)) (.slice (some ⟨g, 0, none⟩) n c) (l.set 0 ⟨x, y⟩) := by
  have hn : n = l.length := by
    rcases h.2 with ⟨e, _⟩ | ⟨g', cap', cur, e, _⟩
    · cases e
    · injection e
  subst hn
  have s := (World.ownsRow.stored (World.ownsRow.stored h 0 (.int .i64 x)).1 1 (.int .i64 y)).1
  rw [celCells_set2 l x y hk] at s
  unfold OwnCl
  rw [List.length_set]
  exact s
/-- cells and notes lie in blocks of their own -/
theorem own_typesC {w : World} {B B' : Nat} {v u : Value} {c : List RCell} {l : List RNote} (h : OwnCl B w v c) (k : OwnNt B' w u l) {b : Nat} (hb : v.ownBlock = some b) : u.ownBlock ≠ some b := by
  intro e
  rcases h.2 with ⟨rfl, -⟩ | ⟨g1, c1, cur1, rfl, -, hg1, -⟩
  · simp [Value.ownBlock] at hb
  · rcases k.2 with ⟨rfl, -⟩ | ⟨g2, c2, cur2, rfl, -, hg2, -⟩
    · simp [Value.ownBlock] at e
    · have hb : g1 = b := by injection hb
      have e : g2 = b := by injection e
      subst hb; subst e
      rw [hg1] at hg2
      injection hg2 with hg2
      injection hg2 with _ hg2 _
      exact absurd hg2 (by decide)
/-- what anyCells hands back -/
def ACPost (w : World) (g : Nat) (p : Int) (e : Ending) (w' : World) : Prop := ∃ cv c lv l, e = .returned (.tuple #[cv, lv]) ∧ Cells w' cv c ∧ Notes w' lv l ∧ c.length ≤ 6 ∧ l.length ≤ 21 ∧ w.grownBy w' (some g)
structure ACI (w wr : World) (g : Nat) (cv : Value) (c : List RCell) (lv : Value) (l : List RNote) (q : Int) : Prop where
  rd : Rd wr g q
  gr : w.grownBy wr (some g)
  co : OwnCl w.heap.size wr cv c
  lo : OwnNt w.heap.size wr lv l
  hg : g < w.heap.size
section
variable {w wr wj : World} {g : Nat} {cv lv : Value} {c : List RCell} {l : List RNote} {q q' : Int}
theorem ACI.by (h : ACI w wr g cv c lv l q) (hg : wr.grownBy wj (some g)) (hr : Rd wj g q') : ACI w wj g cv c lv l q' :=
  ⟨hr, grown_trans h.gr hg, own_off h.co hg h.hg, own_off h.lo hg h.hg, h.hg⟩
theorem ACI.keep (h : ACI w wr g cv c lv l q) (hb : Below wr.heap.size wr wj) : ACI w wj g cv c lv l q :=
  ⟨h.rd.keep hb h.rd.lt, grown_trans h.gr (grown_below hb _), h.co.keep hb, h.lo.keep hb, h.hg⟩
theorem ACI.post (h : ACI w wr g cv c lv l q) (hc : c.length ≤ 6) (hl : l.length ≤ 21) (p : Int) : ACPost w g p (.returned (.tuple #[cv, lv])) wr := ⟨cv, c, lv, l, rfl, h.co.rows, h.lo.rows, hc, hl, h.gr⟩
end
theorem three_cells {W : World} {b B : Nat} (hb : b = W.heap.size) (hB : B ≤ W.heap.size) : OwnCl B (W.alloc (.cells #[.int .i64 5, .int .i64 0, .int .i64 6, .int .i64 1, .int .i64 7, .int .i64 0] 33)) (.slice (some ⟨b, 0, none⟩) 3 3) [⟨5, 0⟩, ⟨6, 1⟩, ⟨7, 0⟩] := by
  subst hb
  exact own_of hB (blk_alloc W _) (by rfl) (by unfold maxLen; omega) (Nat.le_refl _) (by rfl) (fun j hj => by
    have hj : j < 6 := hj
    match j, hj with
    | 0, _ => rfl
    | 1, _ => rfl
    | 2, _ => rfl
    | 3, _ => rfl
    | 4, _ => rfl
    | 5, _ => rfl)
set_option maxHeartbeats 16000000 in
set_option maxRecDepth 100000 in
theorem anyCells_any (g : Nat) (p : Int) (w : World) (h : Rd w g p) (hp : p < 800000000) :
    Calls Try.prog 9 #[.pointer (some ⟨g, 0, none⟩)] w (ACPost w g p) := by
  have hR := hide h
  have hg := h.lt
  clear h
  go_enter Try.func9, Try.ntmps9
  go_wp2_with fail
  refine (anyNotes_any g p w hR.out (by omega)).mono ?_
  rintro e w1 ⟨sv, s, lv, l, q, rfl, ha, ⟨hq0, hq1⟩⟩
  have HA := hide ha
  have hs7 := ha.ls
  have hl21 := ha.ll
  have hw1 := ha.gr.size
  obtain ⟨sa, sc, rfl⟩ := num_shape ha.so.1
  obtain ⟨la, lc, rfl, -⟩ := own_shape ha.lo
  clear ha hR
  go_wp2_with fail
  refine (someUntil_any g q sa s.length sc la l.length lc _ HA.out.rd (by omega) (by omega) (by omega)).mono ?_
  rintro e w2 ⟨uv, us, q2, rfl, hd, -, ⟨hq2, hq3⟩⟩
  have HA2 := hide (HA.out.by hd.gr hd.rd)
  have HU := hide hd.ow
  obtain ⟨ua, uc, rfl, -⟩ := own_shape hd.ow
  clear hd HA
  go_wp2_with fail
  refine (cellsAt_any _ _ _ s us l _ HA2.out.so.1 HA2.out.so.2.1 HA2.out.lo.rows HU.out.nums (by omega)).mono ?_
  rintro e w3 ⟨cv, c, rfl, hc, hc6, hb⟩
  have hw2 := HA2.out.gr.size
  have HI : Hid (ACI w w3 g cv c (.slice la l.length lc) l q2) := ⟨HA2.out.rd.keep hb HA2.out.rd.lt, grown_trans HA2.out.gr (grown_below hb _), own_mono hc hw2, HA2.out.lo.keep hb, hg⟩
  obtain ⟨ca, cc, rfl, -⟩ := own_shape hc
  have hw3 := HI.out.gr.size
  clear hc hb HA2 HU
  by_cases hc0 : c = []
  · subst hc0
    simp only [List.length_nil] at HI ⊢
    have HI4 : Hid (ACI w (w3.alloc (.cells #[.int .i64 5, .int .i64 0, .int .i64 6, .int .i64 1, .int .i64 7, .int .i64 0] 33)) g (.slice (some ⟨w3.heap.size, 0, none⟩) 3 3) [⟨5, 0⟩, ⟨6, 1⟩, ⟨7, 0⟩] (.slice la l.length lc) l q2) :=
      ⟨HI.out.rd.alloc _, (HI.out.keep (below_box _ _)).gr, three_cells rfl hw3, (HI.out.keep (below_box _ _)).lo, hg⟩
    clear HI
    go_wp2_with fail
    refine (pick_any g q2 20 _ HI4.out.rd (by omega)).mono ?_
    rintro e w5 ⟨m, rfl, -, hr5, hg5⟩
    have HI5 := hide (HI4.out.by hg5 hr5)
    clear hr5 hg5
    generalize w3.heap.size = gc at *
    by_cases m0 : m = 0
    · subst m0
      go_wp2_with fail
      refine (one_lit g (q2 + 1) _ 3 _ [-1, 3, 1000000] _ (HI5.out.rd.alloc _) (by omega) (blk_alloc _ _) (by have := HI5.out.rd.lt; omega) (by decide) (by decide)).mono ?_
      rintro e w6 ⟨x1, rfl, -, hr6, hg6⟩
      have HI6 := hide ((HI5.out.keep (below_box _ _)).by hg6 hr6)
      clear hr6 hg6 HI5
      go_wp2_with fail
      refine (one_lit g (q2 + 1 + 1) _ 4 _ [0, 20, 21, -1] _ (HI6.out.rd.alloc _) (by omega) (blk_alloc _ _) (by have := HI6.out.rd.lt; omega) (by decide) (by decide)).mono ?_
      rintro e w7 ⟨x2, rfl, -, hr7, hg7⟩
      have HI7 := hide ((HI6.out.keep (below_box _ _)).by hg7 hr7)
      clear hr7 hg7 HI6
      have hlen := celCells_len [⟨5, 0⟩, ⟨6, 1⟩, ⟨7, 0⟩]
      have n0 : ∃ u, w7.cell? ⟨gc, 0, none⟩ = some u := by
        rw [World.ownsRow.cellAt HI7.out.co _ (by simp), List.getElem?_eq_getElem (by rw [hlen]; simp)]
        exact ⟨_, rfl⟩
      have n1 : ∃ u, w7.cell? ⟨gc, 1, none⟩ = some u := by
        rw [World.ownsRow.cellAt HI7.out.co _ (by simp), List.getElem?_eq_getElem (by rw [hlen]; simp)]
        exact ⟨_, rfl⟩
      obtain ⟨u0, n0⟩ := n0
      obtain ⟨u1, n1⟩ := n1
      have nf0 := World.ownsRow.frozenAt HI7.out.co 0
      have nf1 := World.ownsRow.frozenAt HI7.out.co 1
      have hco := HI7.out.co.setFirst (by simp) x1 x2
      have hlo : OwnNt w.heap.size ((w7.setCell ⟨gc, 0, none⟩ (.int .i64 x1)).setCell ⟨gc, 1, none⟩ (.int .i64 x2)) (.slice la l.length lc) l := own_by (own_by HI7.out.lo (grown_setCell _ _ _ _) (own_typesC HI7.out.co HI7.out.lo rfl)) (grown_setCell _ _ _ _) (own_typesC HI7.out.co HI7.out.lo rfl)
      have hgc := (World.ownsRow.lt HI7.out.co gc rfl).1
      have HP : Hid (ACPost w g p (.returned (.tuple #[.slice (some ⟨gc, 0, none⟩) 3 3, .slice la l.length lc])) ((w7.setCell ⟨gc, 0, none⟩ (.int .i64 x1)).setCell ⟨gc, 1, none⟩ (.int .i64 x2))) :=
        ⟨_, _, _, l, rfl, hco.rows, hlo.rows, by simp, hl21, grown_own (B := 0) (grown_own (B := 0) HI7.out.gr (grown_setCell w7 gc 0 _) (fun k e => by injection e with e; omega)) (grown_setCell _ gc 1 _) (fun k e => by injection e with e; omega)⟩
      clear hco hlo hlen
      go_wp2_with fail
      go_ret2
      exact HP.out
    · have d0 : (m == 0) = false := beq_false_of_ne m0
      clear m0
      go_wp2_with fail
      go_ret2
      exact HI5.out.post (by simp) hl21 p
  · have hpos := List.length_pos_iff.2 hc0
    have dz : ((c.length : Int) == 0) = false := beq_false_of_ne (by omega)
    obtain ⟨gc, rfl⟩ : ∃ gc, ca = some ⟨gc, 0, none⟩ := by
      rcases HI.out.co.2 with ⟨e, h0⟩ | ⟨gc, c', cur, e, -⟩
      · exact absurd (List.length_eq_zero_iff.1 h0) hc0
      · injection e with e _ _; exact ⟨gc, e⟩
    have hpos' : (0 : Int) < (c.length : Int) := by omega
    clear hc0
    go_wp2_with fail
    refine (pick_any g q2 20 _ HI.out.rd (by omega)).mono ?_
    rintro e w5 ⟨m, rfl, -, hr5, hg5⟩
    have HI5 := hide (HI.out.by hg5 hr5)
    clear hr5 hg5
    by_cases m0 : m = 0
    · subst m0
      go_wp2_with fail
      refine (one_lit g (q2 + 1) _ 3 _ [-1, 3, 1000000] _ (HI5.out.rd.alloc _) (by omega) (blk_alloc _ _) (by have := HI5.out.rd.lt; omega) (by decide) (by decide)).mono ?_
      rintro e w6 ⟨x1, rfl, -, hr6, hg6⟩
      have HI6 := hide ((HI5.out.keep (below_box _ _)).by hg6 hr6)
      clear hr6 hg6 HI5
      go_wp2_with fail
      refine (one_lit g (q2 + 1 + 1) _ 4 _ [0, 20, 21, -1] _ (HI6.out.rd.alloc _) (by omega) (blk_alloc _ _) (by have := HI6.out.rd.lt; omega) (by decide) (by decide)).mono ?_
      rintro e w7 ⟨x2, rfl, -, hr7, hg7⟩
      have HI7 := hide ((HI6.out.keep (below_box _ _)).by hg7 hr7)
      clear hr7 hg7 HI6
      have hlen := celCells_len c
      have n0 : ∃ u, w7.cell? ⟨gc, 0, none⟩ = some u := by
        rw [World.ownsRow.cellAt HI7.out.co _ (by omega), List.getElem?_eq_getElem (by omega)]
        exact ⟨_, rfl⟩
      have n1 : ∃ u, w7.cell? ⟨gc, 1, none⟩ = some u := by
        rw [World.ownsRow.cellAt HI7.out.co _ (by omega), List.getElem?_eq_getElem (by omega)]
        exact ⟨_, rfl⟩
      obtain ⟨u0, n0⟩ := n0
      obtain ⟨u1, n1⟩ := n1
      have nf0 := World.ownsRow.frozenAt HI7.out.co 0
      have nf1 := World.ownsRow.frozenAt HI7.out.co 1
      have hco := HI7.out.co.setFirst (by omega) x1 x2
      have hlo : OwnNt w.heap.size ((w7.setCell ⟨gc, 0, none⟩ (.int .i64 x1)).setCell ⟨gc, 1, none⟩ (.int .i64 x2)) (.slice la l.length lc) l := own_by (own_by HI7.out.lo (grown_setCell _ _ _ _) (own_typesC HI7.out.co HI7.out.lo rfl)) (grown_setCell _ _ _ _) (own_typesC HI7.out.co HI7.out.lo rfl)
      have hgc := (World.ownsRow.lt HI7.out.co gc rfl).1
      have HP : Hid (ACPost w g p (.returned (.tuple #[.slice (some ⟨gc, 0, none⟩) c.length cc, .slice la l.length lc])) ((w7.setCell ⟨gc, 0, none⟩ (.int .i64 x1)).setCell ⟨gc, 1, none⟩ (.int .i64 x2))) :=
        ⟨_, _, _, l, rfl, hco.rows, hlo.rows, by simp; omega, hl21, grown_own (B := 0) (grown_own (B := 0) HI7.out.gr (grown_setCell w7 gc 0 _) (fun k e => by injection e with e; omega)) (grown_setCell _ gc 1 _) (fun k e => by injection e with e; omega)⟩
      clear hco hlo hlen
      go_wp2_with fail
      go_ret2
      exact HP.out
    · have d0 : (m == 0) = false := beq_false_of_ne m0
      clear m0
      go_wp2_with fail
      go_ret2
      exact HI5.out.post (by omega) hl21 p
set_option maxHeartbeats 4000000 in
theorem drawCheckOf_any (v : Value) (w : World) (h : BytesAt w v) :
    Calls Try.prog 4 #[v] w fun e w' => ∃ cv c lv l, e = .returned (.tuple #[cv, lv]) ∧ Cells w' cv c ∧ Notes w' lv l ∧ c.length ≤ 6 ∧ l.length ≤ 21 ∧ Below w.heap.size w w' := by
  have HV := hide h
  clear h
  go_enter Try.func4, Try.ntmps4
  go_wp2_with fail
  refine (newReader_any v w HV.out).mono ?_
  rintro e w1 ⟨g, rfl, hg, hr, hb1⟩
  have R1 := hide hr
  have HB1 := hide hb1
  clear hr hb1
  go_wp2_with fail
  refine (anyCells_any g 0 w1 R1.out (by omega)).mono ?_
  rintro e w2 ⟨cv, c, lv, l, rfl, hc, hn, hc6, hl21, hgr⟩
  have HC := hide hc
  have HN := hide hn
  have H2 : Hid (Below w.heap.size w w2) := HB1.out.grown hgr HB1.out.size (fun q hq => by cases hq; exact hg)
  obtain ⟨ca, cc, rfl, -⟩ := hc
  obtain ⟨na, nc, rfl, -⟩ := hn
  clear hgr
  go_wp2_with fail
  go_ret2
  exact ⟨_, c, _, l, rfl, HC.out, HN.out, hc6, hl21, H2.out⟩
end Go.Proofs.Ytnicjpfkiblimaa
