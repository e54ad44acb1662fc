/-
  The generator of any chain; DrawChainOf.
-/
import Derived.Test.YtdijcdadcbhipaaDoorFG10
set_option linter.all false
namespace Go.Proofs.YtdijcdadcbhipaaDoor
open Go.RowKit
/-- a format and changes that a generator has made -/
structure CRes (w wi : World) (g : Nat) (v : Value) (f : List RCol) (u : Value) (cs : List RChg) (p : Int) : Prop where
  rd : Rd wi g p
  grown : w.grownBy wi (some g)
  own : OwnC w.heap.size wi v f
  lst : OwnR hEnc 6 29 w.heap.size wi u cs
  gen : ∀ x ∈ f, genV x.d
  genc : ∀ c ∈ cs, genV c.c.d
  lo : g < w.heap.size
theorem CInv.res {w wi : World} {g C : Nat} {v u : Value} {f : List RCol} {cs : List RChg} {p : Int} (h : CInv w wi g v f C u cs p) : CRes w wi g v f u cs p :=
  ⟨h.rd, h.grown, h.own, OwnR.mono h.lst h.base, h.gen, h.genc, h.lo⟩
theorem CRes.by {w wi wj : World} {g : Nat} {v u : Value} {f : List RCol} {cs : List RChg} {p q : Int} (h : CRes w wi g v f u cs p) (hg : wi.grownBy wj (some g)) (hr : Rd wj g q) : CRes w wj g v f u cs q :=
  ⟨hr, grown_trans h.grown hg, own_byR h.own hg h.lo, own_byR h.lst hg h.lo, h.gen, h.genc, h.lo⟩
def AcPost (w : World) (g : Nat) (p K : Int) (e : Ending) (w' : World) : Prop := ∃ (v u : Value) (f : List RCol) (cs : List RChg) (q : Int), e = .returned (.tuple #[v, u]) ∧ CRes w w' g v f u cs q ∧ f.length ≤ 6 ∧ cs.length ≤ 9 ∧ (p ≤ q ∧ q ≤ p + K)
set_option maxHeartbeats 16000000 in
set_option maxRecDepth 100000 in
theorem anyChain_any (g : Nat) (p : Int) (w : World) (h : Rd w g p) (hp : p < 300000000) (hp0 : 0 ≤ p) :
    Calls Tryd.prog 66 #[.pointer (some ⟨g, 0, none⟩)] w (AcPost w g p 900) := by
  have hg : g < w.heap.size := h.lt
  have HR := hide h
  clear h
  go_enter Tryd.func66, Tryd.ntmps66
  go_wp2_with fail
  with_reducible refine (randomChain_any g p _ HR.out (by omega) (by omega)).mono ?_
  rintro e w1 ⟨v, u, f, cs, C, q, rfl, hI, hl5, hcs8, hq⟩
  have I1 := hide hI
  obtain ⟨fa, fc, rfl, hfc, hfc2⟩ := own_slc hI.own
  obtain ⟨ua, uc, rfl, hu1, hu2⟩ := own_slc hI.lst
  have hcs9 : cs.length ≤ 1048576 := by omega
  have HCS8 := hide hcs8
  clear hI HR hcs8
  go_wp2_with fail
  with_reducible refine (pick_any g q 16 _ I1.out.rd (by omega)).mono ?_
  rintro e w2 ⟨t, rfl, -, hR2, hg2⟩
  have I2 := hide (I1.out.by hg2 hR2)
  clear hR2 hg2 I1
  by_cases t0 : t = 0
  · subst t0
    go_wp2_with fail
    with_reducible refine (anyFormat_any g (q + 1) _ I2.out.rd (by omega) (by omega)).mono ?_
    rintro e w3 ⟨v3, f3, q3, rfl, hI3, -, hl6, hq3⟩
    have I3 := hide (I2.out.by hI3.grown hI3.rd)
    have R3 : Hid (CRes w w3 g v3 f3 (.slice ua cs.length uc) cs q3) := ⟨I3.out.rd, I3.out.grown, OwnR.mono hI3.own I2.out.grown.size, I3.out.res.lst, hI3.gen, I3.out.genc, hg⟩
    obtain ⟨fa3, fc3, rfl, -, -⟩ := own_slc hI3.own
    clear hI3 I2 I3
    go_wp2_with fail
    all_goals go_tidy
    exact ⟨rfl, .tuple #[.slice fa3 f3.length fc3, .slice ua cs.length uc], by simp [results, Tryd.results66, go_sem], _, _, f3, cs, q3, rfl, R3.out, by omega, by have := HCS8.out; omega, by omega⟩
  obtain ⟨d0, d0'⟩ := i64_neq t0
  by_cases t1 : t = 1
  · subst t1
    go_wp2_with fail
    with_reducible refine (anyChange_any g (q + 1) w.heap.size _ f _ I2.out.rd (by omega) (by omega) I2.out.own I2.out.lo I2.out.gen (by omega)).mono ?_
    rintro e w3 ⟨c, q3, rfl, hgc, hR3, hq3, hg3⟩
    have I3 := hide ((I2.out.by hg3 hR3).alloc (.cells #[.int .i64 c.k, .int .i64 c.a, .int .i64 c.c.k, .int .i64 c.c.d.k, .int .i64 c.c.d.n, .string c.c.d.s] 29))
    have L3 := hide (recs_lit hEnc_len c (blk_alloc w3 (.cells #[.int .i64 c.k, .int .i64 c.a, .int .i64 c.c.k, .int .i64 c.c.d.k, .int .i64 c.c.d.n, .string c.c.d.s] 29)))
    have HC := hide hgc
    have hCs := hide I3.out.sz
    clear hR3 hg3 hgc I2
    go_wp2_with (at_builtin; refine wpList_appR (enc := hEnc) (k := 6) (by decide) hEnc_len hEnc_one rfl (.tmp 19) (.tmp 23) 49 29 rfl 56 (by decide) Tryd.underlying49 _ infoHg rfl C (.slice ua cs.length uc) cs rfl I3.out.lst hcs9 _ [c] rfl L3.out (by simp) hCs.out ?_)
    intro u6 w6 ho6 hgr6
    have I6 := hide (I3.out.app ho6 hgr6 HC.out)
    obtain ⟨ua6, uc6, rfl, -, -⟩ := own_slc ho6
    clear ho6 hgr6 I3 L3
    go_wp2_with fail
    all_goals go_tidy
    exact ⟨rfl, .tuple #[.slice fa f.length fc, .slice ua6 (cs ++ [c]).length uc6], by simp [results, Tryd.results66, go_sem], _, _, f, cs ++ [c], q3, rfl, I6.out.res, by omega, by have := HCS8.out; simp; omega, by omega⟩
  obtain ⟨d1, d1'⟩ := i64_neq t1
  by_cases t2 : t = 2
  · subst t2
    go_wp2_with fail
    go_loopg [5] (9 - cs.length) (fun gk s5 wr => ∃ (c2 : List RChg), c2.length + gk = 9 ∧ CInv w wr g (.slice fa f.length fc) f C s5 c2 (q + 1))
    case atStart => exact ⟨cs, by have := HCS8.out; omega, I2.out⟩
    case round =>
      clear I2
      obtain ⟨c2, hcl, hI⟩ := hrel
      have HI := hide hI
      have HCL := hide hcl
      obtain ⟨ua2, uc2, rfl, hv1, hv2⟩ := own_slc hI.lst
      clear hI
      by_cases h0 : gk = 0
      · have h9 : ¬ ((c2.length : Int) < 9) := by omega
        clear hcl
        go_wp2_with fail
        all_goals go_tidy
        exact ⟨rfl, .tuple #[.slice fa f.length fc, .slice ua2 c2.length uc2], by simp [results, Tryd.results66, go_sem], _, _, f, c2, q + 1, rfl, HI.out.res, by omega, by have := HCL.out; omega, by omega⟩
      · have h9 : ((c2.length : Int) < 9) := by omega
        have hc9 : c2.length ≤ 1048576 := by omega
        have I3 := hide (HI.out.alloc (.cells #[.int .i64 3, .int .i64 0, .int .i64 0, .int .i64 0, .int .i64 0, .string ⟨#[]⟩] 29))
        have L3 := hide (recs_lit hEnc_len (⟨3, 0, ⟨0, ⟨0, 0, ⟨#[]⟩⟩⟩⟩ : RChg) (blk_alloc wr (.cells #[.int .i64 3, .int .i64 0, .int .i64 0, .int .i64 0, .int .i64 0, .string ⟨#[]⟩] 29)))
        have HC : Hid (genV (⟨3, 0, ⟨0, ⟨0, 0, ⟨#[]⟩⟩⟩⟩ : RChg).c.d) := ⟨(by show (0 : Nat) ≤ 100; omega), (by simp), (by simp)⟩
        have hCs := hide I3.out.sz
        clear hcl HI
        go_wp2_with (at_builtin; refine wpList_appR (enc := hEnc) (k := 6) (by decide) hEnc_len hEnc_one rfl (.tmp 30) (.tmp 32) 49 29 rfl 56 (by decide) Tryd.underlying49 _ infoHg rfl C (.slice ua2 c2.length uc2) c2 rfl I3.out.lst hc9 _ [⟨3, 0, ⟨0, ⟨0, 0, ⟨#[]⟩⟩⟩⟩] rfl L3.out (by simp) hCs.out ?_)
        intro u6 w6 ho6 hgr6
        have I6 := hide (I3.out.app ho6 hgr6 HC.out)
        clear ho6 hgr6 I3 L3
        go_wp2_with fail
        go_roundg (gk - 1)
        case measure => omega
        case rel => exact ⟨_, by have := HCL.out; simp; omega, I6.out⟩
  obtain ⟨d2, d2'⟩ := i64_neq t2
  go_wp2_with fail
  all_goals go_tidy
  exact ⟨rfl, .tuple #[.slice fa f.length fc, .slice ua cs.length uc], by simp [results, Tryd.results66, go_sem], _, _, f, cs, q + 1, rfl, I2.out.res, by omega, by have := HCS8.out; omega, by omega⟩
def DrawCO (w : World) (e : Ending) (w' : World) : Prop := ∃ (v u : Value) (f : List RCol) (cs : List RChg), e = .returned (.tuple #[v, u]) ∧ Recs cEnc 4 w' v f ∧ Recs hEnc 6 w' u cs ∧ (∀ x ∈ f, genV x.d) ∧ (∀ c ∈ cs, genV c.c.d) ∧ f.length ≤ 6 ∧ cs.length ≤ 9 ∧ Below w.heap.size w w'
set_option maxHeartbeats 4000000 in
set_option maxRecDepth 100000 in
theorem drawChainOf_any (v : Value) (w : World) (h : BytesAt w v) :
    Calls Tryd.prog 27 #[v] w (DrawCO w) := by
  have HA := hide h
  obtain ⟨a, len, cap, rfl, h1, h2, -⟩ := h
  go_enter Tryd.func27, Tryd.ntmps27
  go_wp2_with fail
  with_reducible refine (newReader_any _ _ HA.out).mono ?_
  rintro e w1 ⟨g, rfl, hg, hR1, hb1⟩
  have R1 := hide hR1
  have H1 := hide hb1
  clear hR1 hb1
  go_wp2_with fail
  with_reducible refine (anyChain_any g 0 _ R1.out (by omega) (by omega)).mono ?_
  rintro e w2 ⟨v2, u2, f, cs, q, rfl, hI, hl6, hl9, hq⟩
  have H2 := hide (below_of_grown H1.out hI.grown (by omega))
  have F2 := hide (OwnR.recs cEnc_len hI.own)
  have C2 := hide (OwnR.recs hEnc_len hI.lst)
  have GF := hide hI.gen
  have GC := hide hI.genc
  obtain ⟨a2, c2, rfl, -, -⟩ := own_slc hI.own
  obtain ⟨a3, c3, rfl, -, -⟩ := own_slc hI.lst
  clear hI
  go_wp2_with fail
  all_goals go_tidy
  exact ⟨rfl, .tuple #[.slice a2 f.length c2, .slice a3 cs.length c3], by simp [results, Tryd.results27, go_sem], _, _, f, cs, rfl, F2.out, C2.out, GF.out, GC.out, hl6, hl9, H2.out⟩
end Go.Proofs.YtdijcdadcbhipaaDoor
