/-
  move and ChangeRow of the specification.
-/
import Derived.Test.YtdijcdadcbhipaaDoorFCr
import Derived.Test.YtdijcdadcbhipaaDoorFMv
import Derived.RegionCalls
import Derived.Deep.RegionLaw
set_option linter.all false
namespace Go.Proofs.YtdijcdadcbhipaaDoor
open Go.RowKit
set_option maxHeartbeats 8000000 in
set_option maxRecDepth 100000 in
theorem smove_widen (i : Nat) (ck dk dn : Int) (s : ByteArray) (v : Value) (r : List RVal) (w : World) (h : Recs vEnc 3 w v r) (hr1 : 1 ≤ r.length) (hr5 : r.length ≤ 1000) (hi : i < r.length) (hn : numV r[i]) :
    Calls Tryd.prog 73 #[v, .agg #[.int .i64 3, .int .i64 (i : Int), .int .i64 ck, .int .i64 dk, .int .i64 dn, .string s]] w fun e w' => ∃ u, e = .returned u ∧ OwnV w.heap.size w' u (r.take i ++ [widV r[i]] ++ r.drop (i + 1)) ∧ Below w.heap.size w w' := by
  obtain ⟨y, hy⟩ : ∃ y, widV r[i] = y := ⟨_, rfl⟩
  rw [hy]
  have HY := hide hy
  clear hy
  have HB := hide (below_box2 w (.cells #[.int .i64 3, .int .i64 (i : Int), .int .i64 ck, .int .i64 dk, .int .i64 dn, .string s] 29) (.cells #[] 25))
  have HX := hide (blk_keep (blk_alloc w (.cells #[.int .i64 3, .int .i64 (i : Int), .int .i64 ck, .int .i64 dk, .int .i64 dn, .string s] 29)) (.cells #[] 25))
  have HR0 := hide (h.keep HB.out)
  have HO0 : Hid (OwnV (w.alloc (.cells #[.int .i64 3, .int .i64 (i : Int), .int .i64 ck, .int .i64 dk, .int .i64 dn, .string s] 29)).heap.size ((w.alloc (.cells #[.int .i64 3, .int .i64 (i : Int), .int .i64 ck, .int .i64 dk, .int .i64 dn, .string s] 29)).alloc (.cells #[] 25)) (.slice (some ⟨(w.alloc (.cells #[.int .i64 3, .int .i64 (i : Int), .int .i64 ck, .int .i64 dk, .int .i64 dn, .string s] 29)).heap.size, 0, none⟩) 0 0) []) := own_lit (Nat.le_refl _)
  simp only [World.size_alloc] at HO0
  obtain ⟨b, off, cap, rfl, hl, hcap⟩ := h.at hr1
  have hic : i ≤ cap := by omega
  have hil : i ≤ r.length := by omega
  have HT0 := hide (HR0.out.take i hil)
  have HRW := hide h
  clear h
  go_enter Tryd.func73, Tryd.ntmps73
  go_wp2_with (at_builtin; refine wpList_appR (enc := vEnc) (k := 3) (by decide) vEnc_len vEnc_one rfl (.tmp 6) (.tmp 10) 56 25 rfl 32 (by decide) Tryd.underlying56 _ infoV rfl (w.heap.size + 1) (.slice (some ⟨w.heap.size + 1, 0, none⟩) 0 0) [] rfl HO0.out (by simp) (.slice (some ⟨b, off, none⟩) i cap) (r.take i) rfl HT0.out (by simp; omega) (by simp) ?_)
  intro u1 w2 ho2 hgr2
  have H2 : Hid (Below w.heap.size w w2) := HB.out.grown hgr2 (by simp; omega) (by intro k hk; simp [Value.ownBlock] at hk; omega)
  have O2 : Hid (OwnV (w.heap.size + 1) w2 u1 (r.take i)) := ho2
  have HX2 : Hid (w2.heap[w.heap.size]? = some (.cells #[.int .i64 3, .int .i64 (i : Int), .int .i64 ck, .int .i64 dk, .int .i64 dn, .string s] 29 (0, 0))) := (hgr2.block _ (lt_block HX.out) (by simp [Value.ownBlock])).trans HX.out
  have R2 : Hid (∀ W, Below w.heap.size w W → Recs vEnc 3 W (.slice (some ⟨b, off, none⟩) r.length cap) r) := fun W hW => HRW.out.keep hW
  have hw2 : w.heap.size < w2.heap.size := lt_block HX2.out
  obtain ⟨⟨c0, c1, c2, c3, c4, c5⟩, -⟩ := cells6 HX2.out
  clear ho2 hgr2 HB HX HR0 HO0 HT0
  have HCF : Hid (∀ j u, (vEnc r[i])[j]? = some u → w2.cell? ⟨b, off + i * 3 + j, none⟩ = some u) := by
    intro j u hu
    obtain ⟨a', cap', hv, -, -, -, hd⟩ := R2.out _ H2.out
    obtain ⟨b', off', he, hb, hc⟩ := hd.resolve_left (by rintro rfl; simp at hi)
    injection hv with h1 h2 h3
    subst h1
    injection he with he
    injection he with he1 he2 he3
    subst he1; subst he2
    exact hc i hi j u hu
  obtain ⟨e0, e1, e2⟩ := at3 HCF.out
  have hii : (i : Int) < (r.length : Int) := by omega
  have HW : Hid (∀ W, Below w2.heap.size w2 W → Calls Tryd.prog 94 #[(.agg #[.int .i64 r[i].k, .int .i64 r[i].n, .string r[i].s])] W fun e w' => e = .returned (.agg #[.int .i64 y.k, .int .i64 y.n, .string y.s]) ∧ Below w2.heap.size w2 w') := fun W hW =>
    (swiden_num r[i] W hn).mono fun e w' ⟨h1, h2⟩ => ⟨by rw [h1, HY.out], hW.trans (h2.mono hW.size)⟩
  clear hn HCF HY
  generalize r[i] = x at *
  have HDD : Hid (∀ W, Below w.heap.size w W → Recs vEnc 3 W (.slice (some ⟨b, off + (i + 1) * 3, none⟩) (r.length - (i + 1)) (cap - (i + 1))) (r.drop (i + 1))) := fun W hW => (R2.out W hW).drop (i + 1) (by omega)
  have HD0 : Hid (cap = (i + 1) → ∀ W, Below w.heap.size w W → Recs vEnc 3 W (.slice (some ⟨b, off, none⟩) 0 0) (r.drop (i + 1))) := fun hc W hW => by
    have := (R2.out W hW).drop0 (i + 1) (by omega) hc
    rw [show r.length - (i + 1) = 0 by omega, show cap - (i + 1) = 0 by omega] at this
    exact this
  have OB := hide (OwnR.base O2.out)
  have HXG : Hid (∀ (z z' : World) (row : Option Nat), z.heap[w.heap.size]? = some (.cells #[.int .i64 3, .int .i64 (i : Int), .int .i64 ck, .int .i64 dk, .int .i64 dn, .string s] 29 (0, 0)) → z.grownBy z' row → (∀ k, row = some k → w.heap.size + 1 ≤ k) → z'.heap[w.heap.size]? = some (.cells #[.int .i64 3, .int .i64 (i : Int), .int .i64 ck, .int .i64 dk, .int .i64 dn, .string s] 29 (0, 0))) := fun z z' row h1 h2 h3 => (h2.block _ (lt_block h1) (fun e => by have := h3 _ e.symm; omega)).trans h1
  have hw1 : IntKind.i64.wrap ((i : Int) + 1) = (i : Int) + 1 := by rw [IntKind.wrap_i64]; omega
  have htn : ((i : Int) + 1).toNat = i + 1 := by omega
  have hi0 : (0 : Int) ≤ (i : Int) + 1 := by omega
  have hi1 : (i : Int) + 1 ≤ (r.length : Int) := by omega
  by_cases hci : cap = (i + 1)
  · replace HD0 := hide (HD0.out hci)
    subst hci
    go_upto_region 6 with fail
    go_region_law (first
      | (go_simp; go_at_call 94; (with_reducible refine (HW.out _ (by first | exact (Below.refl _ _).drew | exact Below.refl _ _)).mono ?_); rintro e z1 ⟨rfl, hz1⟩; (have Z1 := hide hz1); (have O3 := hide (OwnR.keep O2.out hz1)); (have X3 := hide (blk_own hz1 HX2.out)); (have s1 : w.heap.size < z1.heap.size := lt_block X3.out); (obtain ⟨⟨p0, p1, p2, p3, p4, p5⟩, -⟩ := cells6 X3.out); clear hz1)
      | (refine step_appR (enc := vEnc) (k := 3) (by decide) vEnc_len vEnc_one rfl (.tmp 29) (.tmp 36) 56 25 rfl 32 (by decide) Tryd.underlying56 _ infoV rfl (w.heap.size + 1) u1 (r.take i) (by rfl) (by first | exact OwnR.alloc O3.out _ | exact World.ownsRow.drew (OwnR.alloc O3.out _)) (by simp; omega) (.slice (some ⟨_, 0, none⟩) 1 1) [y] (by rfl) (by first | exact recs_lit vEnc_len y (blk_alloc z1 _)) (by simp) (by have := s1; simp; omega) ?_; intro u2 z2 ho2 hg2; (have Z2 : Hid (Below w.heap.size w z2) := ((H2.out.trans (Z1.out.mono H2.out.size)).alloc (H2.out.trans (Z1.out.mono H2.out.size)).size _).grown hg2 (by have := s1; simp; omega) (fun k hk => by have := OB.out k hk; omega)); (have O4 := hide ho2); (have X4 : Hid (z2.heap[w.heap.size]? = some (.cells #[.int .i64 3, .int .i64 (i : Int), .int .i64 ck, .int .i64 dk, .int .i64 dn, .string s] 29 (0, 0))) := HXG.out _ _ _ (blk_keep X3.out _) hg2 OB.out); (have s2 : w.heap.size < z2.heap.size := lt_block X4.out); (obtain ⟨⟨r0, r1, r2, r3, r4, r5⟩, -⟩ := cells6 X4.out); clear ho2 hg2)
      | (refine step_appR (enc := vEnc) (k := 3) (by decide) vEnc_len vEnc_one rfl (.tmp 37) (.tmp 42) 56 25 rfl 32 (by decide) Tryd.underlying56 _ infoV rfl (w.heap.size + 1) u2 (r.take i ++ [y]) (by rfl) O4.out (by simp; omega) _ (r.drop (i + 1)) (by rfl) (HD0.out _ Z2.out) (by simp; omega) (by have := lt_block X4.out; omega) ?_; intro u3 z3 ho3 hg3; (have Z3 : Hid (Below w.heap.size w z3) := Z2.out.grown hg3 Z2.out.size (fun k hk => by have := OwnR.base O4.out k hk; omega)); (have O5 := hide ho3); clear ho3 hg3)
      | fail)
    all_goals
      have O6 : Hid (OwnV w.heap.size z3 u3 (r.take i ++ [y] ++ r.drop (i + 1))) := OwnR.mono O5.out (by omega)
      clear O5 HDD HD0 HXG
      go_wp2_with fail
      go_ret
      exact ⟨u3, rfl, (by have := O6.out; simp only [List.append_assoc, List.singleton_append, List.cons_append, List.nil_append] at this ⊢; exact this), Z3.out⟩
  · go_upto_region 6 with fail
    go_region_law (first
      | (go_simp; go_at_call 94; (with_reducible refine (HW.out _ (by first | exact (Below.refl _ _).drew | exact Below.refl _ _)).mono ?_); rintro e z1 ⟨rfl, hz1⟩; (have Z1 := hide hz1); (have O3 := hide (OwnR.keep O2.out hz1)); (have X3 := hide (blk_own hz1 HX2.out)); (have s1 : w.heap.size < z1.heap.size := lt_block X3.out); (obtain ⟨⟨p0, p1, p2, p3, p4, p5⟩, -⟩ := cells6 X3.out); clear hz1)
      | (refine step_appR (enc := vEnc) (k := 3) (by decide) vEnc_len vEnc_one rfl (.tmp 29) (.tmp 36) 56 25 rfl 32 (by decide) Tryd.underlying56 _ infoV rfl (w.heap.size + 1) u1 (r.take i) (by rfl) (by first | exact OwnR.alloc O3.out _ | exact World.ownsRow.drew (OwnR.alloc O3.out _)) (by simp; omega) (.slice (some ⟨_, 0, none⟩) 1 1) [y] (by rfl) (by first | exact recs_lit vEnc_len y (blk_alloc z1 _)) (by simp) (by have := s1; simp; omega) ?_; intro u2 z2 ho2 hg2; (have Z2 : Hid (Below w.heap.size w z2) := ((H2.out.trans (Z1.out.mono H2.out.size)).alloc (H2.out.trans (Z1.out.mono H2.out.size)).size _).grown hg2 (by have := s1; simp; omega) (fun k hk => by have := OB.out k hk; omega)); (have O4 := hide ho2); (have X4 : Hid (z2.heap[w.heap.size]? = some (.cells #[.int .i64 3, .int .i64 (i : Int), .int .i64 ck, .int .i64 dk, .int .i64 dn, .string s] 29 (0, 0))) := HXG.out _ _ _ (blk_keep X3.out _) hg2 OB.out); (have s2 : w.heap.size < z2.heap.size := lt_block X4.out); (obtain ⟨⟨r0, r1, r2, r3, r4, r5⟩, -⟩ := cells6 X4.out); clear ho2 hg2)
      | (refine step_appR (enc := vEnc) (k := 3) (by decide) vEnc_len vEnc_one rfl (.tmp 37) (.tmp 42) 56 25 rfl 32 (by decide) Tryd.underlying56 _ infoV rfl (w.heap.size + 1) u2 (r.take i ++ [y]) (by rfl) O4.out (by simp; omega) _ (r.drop (i + 1)) (by rfl) (HDD.out _ Z2.out) (by simp; omega) (by have := lt_block X4.out; omega) ?_; intro u3 z3 ho3 hg3; (have Z3 : Hid (Below w.heap.size w z3) := Z2.out.grown hg3 Z2.out.size (fun k hk => by have := OwnR.base O4.out k hk; omega)); (have O5 := hide ho3); clear ho3 hg3)
      | fail)
    all_goals
      have O6 : Hid (OwnV w.heap.size z3 u3 (r.take i ++ [y] ++ r.drop (i + 1))) := OwnR.mono O5.out (by omega)
      clear O5 HDD HD0 HXG
      go_wp2_with fail
      go_ret
      exact ⟨u3, rfl, (by have := O6.out; simp only [List.append_assoc, List.singleton_append, List.cons_append, List.nil_append] at this ⊢; exact this), Z3.out⟩
end Go.Proofs.YtdijcdadcbhipaaDoor
