/-
  move and ChangeRow of the specification.
-/
import Derived.Test.YtdijcdadcbhipaaDoorFCr
import Derived.Test.YtdijcdadcbhipaaDoorFMv
import Derived.RegionCalls
import Derived.Deep.RegionLaw
set_option linter.all false
namespace Go.Proofs.YtdijcdadcbhipaaDoor
open Go.RowKit
set_option maxHeartbeats 8000000 in
set_option maxRecDepth 100000 in
theorem smove_add (i : Nat) (ck dk dn : Int) (s : ByteArray) (v : Value) (r : List RVal) (w : World) (h : Recs vEnc 3 w v r) (hr1 : 1 ≤ r.length) (hr5 : r.length ≤ 1000) (hi : i ≤ r.length) :
    Calls Tryd.prog 73 #[v, .agg #[.int .i64 1, .int .i64 (i : Int), .int .i64 ck, .int .i64 dk, .int .i64 dn, .string s]] w fun e w' => ∃ u, e = .returned u ∧ OwnV w.heap.size w' u (r.take i ++ [⟨dk, dn, s⟩] ++ r.drop i) ∧ Below w.heap.size w w' := by
  have HB := hide (below_box2 w (.cells #[.int .i64 1, .int .i64 (i : Int), .int .i64 ck, .int .i64 dk, .int .i64 dn, .string s] 29) (.cells #[] 25))
  have HX := hide (blk_keep (blk_alloc w (.cells #[.int .i64 1, .int .i64 (i : Int), .int .i64 ck, .int .i64 dk, .int .i64 dn, .string s] 29)) (.cells #[] 25))
  have HR0 := hide (h.keep HB.out)
  have HO0 : Hid (OwnV (w.alloc (.cells #[.int .i64 1, .int .i64 (i : Int), .int .i64 ck, .int .i64 dk, .int .i64 dn, .string s] 29)).heap.size ((w.alloc (.cells #[.int .i64 1, .int .i64 (i : Int), .int .i64 ck, .int .i64 dk, .int .i64 dn, .string s] 29)).alloc (.cells #[] 25)) (.slice (some ⟨(w.alloc (.cells #[.int .i64 1, .int .i64 (i : Int), .int .i64 ck, .int .i64 dk, .int .i64 dn, .string s] 29)).heap.size, 0, none⟩) 0 0) []) := own_lit (Nat.le_refl _)
  simp only [World.size_alloc] at HO0
  obtain ⟨b, off, cap, rfl, hl, hcap⟩ := h.at hr1
  have hic : i ≤ cap := by omega
  have hil : i ≤ r.length := by omega
  have HT0 := hide (HR0.out.take i hil)
  have HRW := hide h
  clear h
  go_enter Tryd.func73, Tryd.ntmps73
  go_wp2_with (at_builtin; refine wpList_appR (enc := vEnc) (k := 3) (by decide) vEnc_len vEnc_one rfl (.tmp 6) (.tmp 10) 56 25 rfl 32 (by decide) Tryd.underlying56 _ infoV rfl (w.heap.size + 1) (.slice (some ⟨w.heap.size + 1, 0, none⟩) 0 0) [] rfl HO0.out (by simp) (.slice (some ⟨b, off, none⟩) i cap) (r.take i) rfl HT0.out (by simp; omega) (by simp) ?_)
  intro u1 w2 ho2 hgr2
  have H2 : Hid (Below w.heap.size w w2) := HB.out.grown hgr2 (by simp; omega) (by intro k hk; simp [Value.ownBlock] at hk; omega)
  have O2 : Hid (OwnV (w.heap.size + 1) w2 u1 (r.take i)) := ho2
  have HX2 : Hid (w2.heap[w.heap.size]? = some (.cells #[.int .i64 1, .int .i64 (i : Int), .int .i64 ck, .int .i64 dk, .int .i64 dn, .string s] 29 (0, 0))) := (hgr2.block _ (lt_block HX.out) (by simp [Value.ownBlock])).trans HX.out
  have R2 : Hid (∀ W, Below w.heap.size w W → Recs vEnc 3 W (.slice (some ⟨b, off, none⟩) r.length cap) r) := fun W hW => HRW.out.keep hW
  have hw2 : w.heap.size < w2.heap.size := lt_block HX2.out
  obtain ⟨⟨c0, c1, c2, c3, c4, c5⟩, -⟩ := cells6 HX2.out
  clear ho2 hgr2 HB HX HR0 HO0 HT0
  have HDD : Hid (∀ W, Below w.heap.size w W → Recs vEnc 3 W (.slice (some ⟨b, off + i * 3, none⟩) (r.length - i) (cap - i)) (r.drop i)) := fun W hW => (R2.out W hW).drop i (by omega)
  have HD0 : Hid (cap = i → ∀ W, Below w.heap.size w W → Recs vEnc 3 W (.slice (some ⟨b, off, none⟩) 0 0) (r.drop i)) := fun hc W hW => by
    have := (R2.out W hW).drop0 i (by omega) hc
    rw [show r.length - i = 0 by omega, show cap - i = 0 by omega] at this
    exact this
  have OB := hide (OwnR.base O2.out)
  have HXG : Hid (∀ (z z' : World) (row : Option Nat), z.heap[w.heap.size]? = some (.cells #[.int .i64 1, .int .i64 (i : Int), .int .i64 ck, .int .i64 dk, .int .i64 dn, .string s] 29 (0, 0)) → z.grownBy z' row → (∀ k, row = some k → w.heap.size + 1 ≤ k) → z'.heap[w.heap.size]? = some (.cells #[.int .i64 1, .int .i64 (i : Int), .int .i64 ck, .int .i64 dk, .int .i64 dn, .string s] 29 (0, 0))) := fun z z' row h1 h2 h3 => (h2.block _ (lt_block h1) (fun e => by have := h3 _ e.symm; omega)).trans h1
  by_cases hci : cap = i
  · replace HD0 := hide (HD0.out hci)
    have hcj := hci.symm
    subst hcj
    go_upto_region 4 with fail
    go_region_law (first
      | (refine step_appR (enc := vEnc) (k := 3) (by decide) vEnc_len vEnc_one rfl (.tmp 16) (.tmp 20) 56 25 rfl 32 (by decide) Tryd.underlying56 _ infoV rfl (w.heap.size + 1) u1 (r.take i) (by rfl) (by first | exact OwnR.alloc O2.out _ | exact World.ownsRow.drew (OwnR.alloc O2.out _)) (by simp; omega) (.slice (some ⟨_, 0, none⟩) 1 1) [⟨dk, dn, s⟩] (by rfl) (by first | exact recs_lit vEnc_len ⟨dk, dn, s⟩ (blk_alloc w2 _)) (by simp) (by have := hw2; simp; omega) ?_; intro u2 z2 ho2 hg2; (have Z2 : Hid (Below w.heap.size w z2) := by first | exact (H2.out.alloc H2.out.size _).grown hg2 (by have := H2.out.size; simp; omega) (fun k hk => by have := OB.out k hk; omega) | exact ((H2.out.alloc H2.out.size _).drew).grown hg2 (by have := H2.out.size; simp; omega) (fun k hk => by have := OB.out k hk; omega)); (have O4 := hide ho2); (have X4 : Hid (z2.heap[w.heap.size]? = some (.cells #[.int .i64 1, .int .i64 (i : Int), .int .i64 ck, .int .i64 dk, .int .i64 dn, .string s] 29 (0, 0))) := by first | exact HXG.out _ _ _ (blk_keep HX2.out _) hg2 OB.out | exact HXG.out (World.drew (w2.alloc _)) _ _ (blk_keep HX2.out _) hg2 OB.out); (have s2 : w.heap.size < z2.heap.size := lt_block X4.out); (obtain ⟨⟨r0, r1, r2, r3, r4, r5⟩, -⟩ := cells6 X4.out); clear ho2 hg2)
      | (refine step_appR (enc := vEnc) (k := 3) (by decide) vEnc_len vEnc_one rfl (.tmp 21) (.tmp 25) 56 25 rfl 32 (by decide) Tryd.underlying56 _ infoV rfl (w.heap.size + 1) u2 (r.take i ++ [⟨dk, dn, s⟩]) (by rfl) O4.out (by simp; omega) _ (r.drop i) (by rfl) (HD0.out _ Z2.out) (by simp; omega) (by have := lt_block X4.out; omega) ?_; intro u3 z3 ho3 hg3; (have Z3 : Hid (Below w.heap.size w z3) := Z2.out.grown hg3 Z2.out.size (fun k hk => by have := OwnR.base O4.out k hk; omega)); (have O5 := hide ho3); clear ho3 hg3)
      | fail)
    all_goals
      have O6 : Hid (OwnV w.heap.size z3 u3 (r.take i ++ [⟨dk, dn, s⟩] ++ r.drop i)) := OwnR.mono O5.out (by omega)
      clear O5 HDD HD0 HXG
      go_wp2_with fail
      go_ret
      exact ⟨u3, rfl, (by have := O6.out; simp only [List.append_assoc, List.singleton_append, List.cons_append, List.nil_append] at this ⊢; exact this), Z3.out⟩
  · go_upto_region 4 with fail
    go_region_law (first
      | (refine step_appR (enc := vEnc) (k := 3) (by decide) vEnc_len vEnc_one rfl (.tmp 16) (.tmp 20) 56 25 rfl 32 (by decide) Tryd.underlying56 _ infoV rfl (w.heap.size + 1) u1 (r.take i) (by rfl) (by first | exact OwnR.alloc O2.out _ | exact World.ownsRow.drew (OwnR.alloc O2.out _)) (by simp; omega) (.slice (some ⟨_, 0, none⟩) 1 1) [⟨dk, dn, s⟩] (by rfl) (by first | exact recs_lit vEnc_len ⟨dk, dn, s⟩ (blk_alloc w2 _)) (by simp) (by have := hw2; simp; omega) ?_; intro u2 z2 ho2 hg2; (have Z2 : Hid (Below w.heap.size w z2) := by first | exact (H2.out.alloc H2.out.size _).grown hg2 (by have := H2.out.size; simp; omega) (fun k hk => by have := OB.out k hk; omega) | exact ((H2.out.alloc H2.out.size _).drew).grown hg2 (by have := H2.out.size; simp; omega) (fun k hk => by have := OB.out k hk; omega)); (have O4 := hide ho2); (have X4 : Hid (z2.heap[w.heap.size]? = some (.cells #[.int .i64 1, .int .i64 (i : Int), .int .i64 ck, .int .i64 dk, .int .i64 dn, .string s] 29 (0, 0))) := by first | exact HXG.out _ _ _ (blk_keep HX2.out _) hg2 OB.out | exact HXG.out (World.drew (w2.alloc _)) _ _ (blk_keep HX2.out _) hg2 OB.out); (have s2 : w.heap.size < z2.heap.size := lt_block X4.out); (obtain ⟨⟨r0, r1, r2, r3, r4, r5⟩, -⟩ := cells6 X4.out); clear ho2 hg2)
      | (refine step_appR (enc := vEnc) (k := 3) (by decide) vEnc_len vEnc_one rfl (.tmp 21) (.tmp 25) 56 25 rfl 32 (by decide) Tryd.underlying56 _ infoV rfl (w.heap.size + 1) u2 (r.take i ++ [⟨dk, dn, s⟩]) (by rfl) O4.out (by simp; omega) _ (r.drop i) (by rfl) (HDD.out _ Z2.out) (by simp; omega) (by have := lt_block X4.out; omega) ?_; intro u3 z3 ho3 hg3; (have Z3 : Hid (Below w.heap.size w z3) := Z2.out.grown hg3 Z2.out.size (fun k hk => by have := OwnR.base O4.out k hk; omega)); (have O5 := hide ho3); clear ho3 hg3)
      | fail)
    all_goals
      have O6 : Hid (OwnV w.heap.size z3 u3 (r.take i ++ [⟨dk, dn, s⟩] ++ r.drop i)) := OwnR.mono O5.out (by omega)
      clear O5 HDD HD0 HXG
      go_wp2_with fail
      go_ret
      exact ⟨u3, rfl, (by have := O6.out; simp only [List.append_assoc, List.singleton_append, List.cons_append, List.nil_append] at this ⊢; exact this), Z3.out⟩
end Go.Proofs.YtdijcdadcbhipaaDoor
