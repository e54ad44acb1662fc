/-
  The generators of chains; DrawChainOf.
-/
import Derived.Test.YtdijcdadcbhipaaDoorFG8
import Derived.Test.YtdijcdadcbhipaaDoorFPl4
set_option linter.all false
namespace Go.Proofs.YtdijcdadcbhipaaDoor
open Go.RowKit
theorem infoHg : (Tryd.prog.info? 29).map (fun i => (i.zero, i.size, i.bytes)) = some (some (.agg #[.int .i64 0, .int .i64 0, .int .i64 0, .int .i64 0, .int .i64 0, .string ⟨#[]⟩]), 6, 56) := by kernel_rfl
theorem gen_wid {v : RVal} (h : genV v) : genV (widV v) := by
  unfold widV
  split
  · have := decT_size v.n (by have := h.2; omega) (by have := h.2; omega)
    refine ⟨?_, by simp, by simp⟩
    show (decT v.n).size ≤ 100
    omega
  · exact h
theorem gen_newC {f : List RCol} {c : RChg} (h : ∀ x ∈ f, genV x.d) (hc : genV c.c.d) : ∀ x ∈ newC f c, genV x.d := by
  intro x hx
  unfold newC at hx
  split at hx
  · simp only [List.mem_append, List.mem_singleton] at hx
    rcases hx with (hx | rfl) | hx
    · exact h _ (List.mem_of_mem_take hx)
    · exact hc
    · exact h _ (List.mem_of_mem_drop hx)
  · split at hx
    · simp only [List.mem_append] at hx
      rcases hx with hx | hx
      · exact h _ (List.mem_of_mem_take hx)
      · exact h _ (List.mem_of_mem_drop hx)
    · simp only [List.mem_append, List.mem_map] at hx
      rcases hx with (hx | ⟨y, hy, rfl⟩) | hx
      · exact h _ (List.mem_of_mem_take hx)
      · exact gen_wid (h _ (List.mem_of_mem_drop (List.mem_of_mem_take hy)))
      · exact h _ (List.mem_of_mem_drop hx)
theorem newC_len {f : List RCol} {c : RChg} (hp : posB f c = true) (h1 : 1 ≤ f.length) (h5 : f.length ≤ 5) : 1 ≤ (newC f c).length ∧ (newC f c).length ≤ 5 := by
  obtain ⟨i, -, hi, hq⟩ := pos_at hp
  rcases hq with ⟨-, h, -, e⟩ | ⟨-, hlt, h2, e⟩ | ⟨-, hlt, hk, e⟩ <;> rw [e] <;> simp <;> omega
/-- a format and changes that a generator has made, while it works -/
structure CInv (w wi : World) (g : Nat) (v : Value) (f : List RCol) (C : Nat) (u : Value) (cs : List RChg) (p : Int) : Prop where
  rd : Rd wi g p
  grown : w.grownBy wi (some g)
  own : OwnC w.heap.size wi v f
  top : ∀ j, v.ownBlock = some j → j < C
  lst : OwnR hEnc 6 29 C wi u cs
  gen : ∀ x ∈ f, genV x.d
  genc : ∀ c ∈ cs, genV c.c.d
  lo : g < w.heap.size
  base : w.heap.size ≤ C
  sz : C ≤ wi.heap.size
theorem CInv.by {w wi wj : World} {g C : Nat} {v u : Value} {f : List RCol} {cs : List RChg} {p q : Int} (h : CInv w wi g v f C u cs p) (hg : wi.grownBy wj (some g)) (hr : Rd wj g q) : CInv w wj g v f C u cs q :=
  ⟨hr, grown_trans h.grown hg, own_byR h.own hg h.lo, h.top, own_byR h.lst hg (Nat.lt_of_lt_of_le h.lo h.base), h.gen, h.genc, h.lo, h.base, Nat.le_trans h.sz hg.size⟩
theorem CInv.below {w wi wj : World} {g C : Nat} {v u : Value} {f : List RCol} {cs : List RChg} {p : Int} (h : CInv w wi g v f C u cs p) (hb : Below wi.heap.size wi wj) : CInv w wj g v f C u cs p :=
  h.by (grown_below hb _) (h.rd.keep hb h.rd.lt)
theorem CInv.alloc {w wi : World} {g C : Nat} {v u : Value} {f : List RCol} {cs : List RChg} {p : Int} (h : CInv w wi g v f C u cs p) (o : Obj) : CInv w (wi.alloc o) g v f C u cs p :=
  h.by (grown_alloc (World.grownBy.refl _ _) _) (h.rd.alloc o)
theorem CInv.csize {w wi : World} {g C : Nat} {v u : Value} {f : List RCol} {cs : List RChg} {p : Int} (h : CInv w wi g v f C u cs p) {k : Nat} (hk : u.ownBlock = some k) : C ≤ k ∧ k < wi.heap.size := World.ownsRow.lt h.lst k hk
theorem CInv.app {w wi wj : World} {g C : Nat} {v u u' : Value} {f : List RCol} {cs : List RChg} {p : Int} {c : RChg} (h : CInv w wi g v f C u cs p) (ho : OwnR hEnc 6 29 C wj u' (cs ++ [c])) (hg : wi.grownBy wj u.ownBlock) (hc : genV c.c.d) : CInv w wj g v f C u' (cs ++ [c]) p :=
  ⟨h.rd.keepOwn hg (fun k e => by have := (h.csize e).1; have := h.lo; have := h.base; omega), grown_newO h.grown hg (fun k e => by have := (h.csize e).1; have := h.base; omega),
    own_kept2 h.own hg (fun k h1 h2 => by have := h.top k h2; have := (h.csize h1).1; omega), h.top, ho, h.gen, fun x hx => by
    rcases List.mem_append.1 hx with hx | hx
    · exact h.genc x hx
    · rw [List.mem_singleton.1 hx]; exact hc, h.lo, h.base, Nat.le_trans h.sz hg.size⟩
def ChPost (w : World) (g : Nat) (p K : Int) (n : Nat) (e : Ending) (w' : World) : Prop := ∃ (v u : Value) (f : List RCol) (cs : List RChg) (C : Nat) (q : Int), e = .returned (.tuple #[v, u]) ∧ CInv w w' g v f C u cs q ∧ f.length ≤ 5 ∧ cs.length ≤ n ∧ (p ≤ q ∧ q ≤ p + K)
set_option maxHeartbeats 16000000 in
set_option maxRecDepth 100000 in
theorem randomChain_any (g : Nat) (p : Int) (w : World) (h : Rd w g p) (hp : p < 400000000) (hp0 : 0 ≤ p) :
    Calls Tryd.prog 95 #[.pointer (some ⟨g, 0, none⟩)] w (ChPost w g p 600 8) := by
  have hg : g < w.heap.size := h.lt
  have HR := hide h
  clear h
  go_enter Tryd.func95, Tryd.ntmps95
  go_wp2_with fail
  with_reducible refine (randomFormat_any g p _ HR.out (by omega) (by omega)).mono ?_
  rintro e w1 ⟨v, f, q, rfl, hI, hl1, hl5, hq⟩
  obtain ⟨fa, fc, rfl, hfc, hfc2⟩ := own_slc hI.own
  have htop : ∀ j, (Value.slice fa f.length fc).ownBlock = some j → j < w1.heap.size := fun j hj => (World.ownsRow.lt hI.own j hj).2
  have hsz := hI.size
  have I0 : Hid (CInv w (w1.alloc (.cells #[] 29)) g (.slice fa f.length fc) f w1.heap.size (.slice (some ⟨w1.heap.size, 0, none⟩) 0 0) [] q) :=
    ⟨hI.rd.alloc _, grown_alloc hI.grown _, OwnR.alloc hI.own _, htop, own_lit (Nat.le_refl _), hI.gen, (fun x hx => by simp at hx), hg, hsz, by simp⟩
  have hgw1 : g < w1.heap.size := by omega
  clear hI htop HR
  go_wp2_with fail
  refine (one_lit g q (w1.heap.size + 1) 6 _ [2, 3, 1, 0, 4, 8] _ (I0.out.rd.alloc _) (by omega) (blk_at (W := w1.alloc (.cells #[] 29)) (by simp) _) (by omega) (by decide) (by decide)).mono ?_
  rintro e w2 ⟨n, rfl, hm, hR2, hg2⟩
  have I2 := hide (I0.out.by (grown_trans (grown_alloc (World.grownBy.refl _ _) _) hg2) hR2)
  obtain ⟨m, rfl⟩ : ∃ m : Nat, n = (m : Int) := ⟨n.toNat, by simp at hm; omega⟩
  have hm8 : m ≤ 8 := by simp at hm; omega
  clear hm hR2 hg2 I0
  go_wp2_with fail
  go_loopg [5, 6, 7] m (fun gk s5 s6 s7 wr => s7 = .int .i64 (gk : Nat) ∧ ∃ (cs : List RChg) (now : List RCol) (pr : Int), cs.length + gk ≤ 8 ∧ CInv w wr g (.slice fa f.length fc) f w1.heap.size s5 cs pr ∧ OwnC w.heap.size wr s6 now ∧ (∀ x ∈ now, genV x.d) ∧ 1 ≤ now.length ∧ now.length ≤ 5 ∧ (p ≤ pr ∧ pr + 61 * gk ≤ p + 600))
  case atStart => exact ⟨rfl, [], f, q + 1, by simpa using hm8, I2.out, I2.out.own, I2.out.gen, hl1, hl5, by omega, by omega⟩
  case round =>
    clear I2
    obtain ⟨rfl, cs, now, pr, hcl, hI, hN, hgn, hn1, hn5, hpr0, hpr⟩ := hrel
    have HI := hide hI
    have HN := hide hN
    have HGN := hide hgn
    obtain ⟨ua, uc, rfl, hu1, hu2⟩ := own_slc hI.lst
    obtain ⟨na, nc, rfl, hn3, hn4⟩ := own_slc hN
    have HCL := hide hcl
    clear hI hN hgn
    by_cases h0 : gk = 0
    · subst h0
      go_wp2_with fail
      all_goals go_tidy
      exact ⟨rfl, .tuple #[.slice fa f.length fc, .slice ua cs.length uc], by simp [results, Tryd.results95, go_sem], _, _, f, cs, w1.heap.size, pr, rfl, HI.out, hl5, by have := HCL.out; omega, by omega⟩
    · have hgk : (0 : Int) < (gk : Int) := by omega
      go_wp2_with fail
      with_reducible refine (randomChange_any g pr w.heap.size _ now wr HI.out.rd (by omega) (by omega) HN.out HI.out.lo HGN.out hn1 (by omega)).mono ?_
      rintro e w3 ⟨c, q3, rfl, hgc, hR3, hq3, hg3⟩
      have I3 := hide ((HI.out.by hg3 hR3).alloc (.cells #[.int .i64 c.k, .int .i64 c.a, .int .i64 c.c.k, .int .i64 c.c.d.k, .int .i64 c.c.d.n, .string c.c.d.s] 29))
      have N3 : Hid (OwnC w.heap.size (w3.alloc (.cells #[.int .i64 c.k, .int .i64 c.a, .int .i64 c.c.k, .int .i64 c.c.d.k, .int .i64 c.c.d.n, .string c.c.d.s] 29)) (.slice na now.length nc) now) := OwnR.alloc (own_byR HN.out hg3 HI.out.lo) _
      have X3 := hide (blk_alloc w3 (.cells #[.int .i64 c.k, .int .i64 c.a, .int .i64 c.c.k, .int .i64 c.c.d.k, .int .i64 c.c.d.n, .string c.c.d.s] 29))
      have HC := hide hgc
      obtain ⟨⟨c0, c1, c2, c3, c4, c5⟩, -⟩ := cells6 X3.out
      clear hR3 hg3 hgc HI HN
      go_wp2_with fail
      with_reducible refine (schange_any c _ now _ (OwnC.itms N3.out) (genV_okC HC.out) (genV_goodC HGN.out) hn1 (by omega)).mono ?_
      rintro e w4 ⟨hb4, hq4⟩
      have I4 := hide (I3.out.below hb4)
      have X4 := hide (blk_own hb4 X3.out)
      have s4 := hide hb4.size
      clear c0 c1 c2 c3 c4 c5
      cases hpb : posB now c with
      | false =>
        rw [hpb, if_neg (by simp)] at hq4
        obtain rfl := hq4
        have N4 : Hid (OwnC w.heap.size w4 (.slice na now.length nc) now) := OwnR.keep N3.out hb4
        clear hb4 hpb N3 I3
        go_wp2_with fail
        go_roundg (gk - 1)
        case measure => omega
        case rel => exact ⟨by go_num, cs, now, q3, by omega, I4.out, N4.out, HGN.out, hn1, hn5, by omega, by omega⟩
      | true =>
        rw [hpb, if_pos rfl] at hq4
        obtain ⟨v4, rfl, ho4⟩ := hq4
        obtain ⟨na4, nc4, rfl, hnn1, hnn2⟩ := own_slc ho4
        have I5 := hide (I4.out.alloc (.cells #[.int .i64 c.k, .int .i64 c.a, .int .i64 c.c.k, .int .i64 c.c.d.k, .int .i64 c.c.d.n, .string c.c.d.s] 29))
        have L5 := hide (recs_lit hEnc_len c (blk_alloc w4 (.cells #[.int .i64 c.k, .int .i64 c.a, .int .i64 c.c.k, .int .i64 c.c.d.k, .int .i64 c.c.d.n, .string c.c.d.s] 29)))
        have N5 := hide (OwnR.alloc ho4 (.cells #[.int .i64 c.k, .int .i64 c.a, .int .i64 c.c.k, .int .i64 c.c.d.k, .int .i64 c.c.d.n, .string c.c.d.s] 29))
        have HLT := hide (fun k hk => (I3.out.csize (k := k) hk).2)
        have HNB := hide (OwnR.base ho4)
        have HNL := hide (newC_len hpb hn1 hn5)
        have HGG := hide (gen_newC HGN.out HC.out)
        have hcs9 : cs.length ≤ 1048576 := by have := HCL.out; omega
        have hCs := hide I5.out.sz
        have hS3 := hide (Nat.le_trans I3.out.base I3.out.sz)
        obtain ⟨⟨c0, c1, c2, c3, c4, c5⟩, -⟩ := cells6 X4.out
        clear hb4 ho4 hpb N3 I3 X3
        go_wp2_with (at_builtin; refine wpList_appR (enc := hEnc) (k := 6) (by decide) hEnc_len hEnc_one rfl (.tmp 32) (.tmp 34) 49 29 rfl 56 (by decide) Tryd.underlying49 _ infoHg rfl w1.heap.size (.slice ua cs.length uc) cs rfl I5.out.lst hcs9 _ [c] rfl L5.out (by simp) hCs.out ?_)
        intro u6 w6 ho6 hgr6
        have I6 := hide (I5.out.app ho6 hgr6 HC.out)
        have N6 : Hid (OwnC w.heap.size w6 (.slice na4 (newC now c).length nc4) (newC now c)) := OwnR.mono (own_kept2 N5.out hgr6 (fun k h1 h2 => by have := HLT.out k h1; have := HNB.out k h2; omega)) hS3.out
        clear ho6 hgr6 I4 I5 L5 N5 X4 c0 c1 c2 c3 c4 c5
        go_wp2_with fail
        go_roundg (gk - 1)
        case measure => omega
        case rel => exact ⟨by go_num, cs ++ [c], newC now c, q3, by simp; omega, I6.out, N6.out, HGG.out, HNL.out.1, HNL.out.2, by omega, by omega⟩
end Go.Proofs.YtdijcdadcbhipaaDoor
