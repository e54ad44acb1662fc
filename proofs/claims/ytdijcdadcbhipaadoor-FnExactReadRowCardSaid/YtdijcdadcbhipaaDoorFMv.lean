/-
  move and ChangeRow of the specification.
-/
import Derived.Test.YtdijcdadcbhipaaDoorFCr
import Derived.Test.YtdijcdadcbhipaaDoorFSf
import Derived.RegionCalls
import Derived.Deep.RegionLaw
set_option linter.all false
namespace Go.Proofs.YtdijcdadcbhipaaDoor
open Go.RowKit
theorem wid_eta (v : RVal) : valB v = true → numV v := num_val
set_option maxHeartbeats 8000000 in
set_option maxRecDepth 100000 in
theorem smove_drop (i : Nat) (ck dk dn : Int) (s : ByteArray) (v : Value) (r : List RVal) (w : World) (h : Recs vEnc 3 w v r) (hr1 : 1 ≤ r.length) (hr5 : r.length ≤ 1000) (hi : i < r.length) :
    Calls Tryd.prog 73 #[v, .agg #[.int .i64 2, .int .i64 (i : Int), .int .i64 ck, .int .i64 dk, .int .i64 dn, .string s]] w fun e w' => ∃ u, e = .returned u ∧ OwnV w.heap.size w' u (r.take i ++ r.drop (i + 1)) ∧ Below w.heap.size w w' := by
  have HB := hide (below_box2 w (.cells #[.int .i64 2, .int .i64 (i : Int), .int .i64 ck, .int .i64 dk, .int .i64 dn, .string s] 29) (.cells #[] 25))
  have HX := hide (blk_keep (blk_alloc w (.cells #[.int .i64 2, .int .i64 (i : Int), .int .i64 ck, .int .i64 dk, .int .i64 dn, .string s] 29)) (.cells #[] 25))
  have HR0 := hide (h.keep HB.out)
  have HO0 : Hid (OwnV (w.alloc (.cells #[.int .i64 2, .int .i64 (i : Int), .int .i64 ck, .int .i64 dk, .int .i64 dn, .string s] 29)).heap.size ((w.alloc (.cells #[.int .i64 2, .int .i64 (i : Int), .int .i64 ck, .int .i64 dk, .int .i64 dn, .string s] 29)).alloc (.cells #[] 25)) (.slice (some ⟨(w.alloc (.cells #[.int .i64 2, .int .i64 (i : Int), .int .i64 ck, .int .i64 dk, .int .i64 dn, .string s] 29)).heap.size, 0, none⟩) 0 0) []) := own_lit (Nat.le_refl _)
  simp only [World.size_alloc] at HO0
  obtain ⟨b, off, cap, rfl, hl, hcap⟩ := h.at hr1
  have hic : i ≤ cap := by omega
  have hil : i ≤ r.length := by omega
  have HT0 := hide (HR0.out.take i hil)
  have HRW := hide h
  clear h
  go_enter Tryd.func73, Tryd.ntmps73
  go_wp2_with (at_builtin; refine wpList_appR (enc := vEnc) (k := 3) (by decide) vEnc_len vEnc_one rfl (.tmp 6) (.tmp 10) 56 25 rfl 32 (by decide) Tryd.underlying56 _ infoV rfl (w.heap.size + 1) (.slice (some ⟨w.heap.size + 1, 0, none⟩) 0 0) [] rfl HO0.out (by simp) (.slice (some ⟨b, off, none⟩) i cap) (r.take i) rfl HT0.out (by simp; omega) (by simp) ?_)
  intro u1 w2 ho2 hgr2
  have H2 : Hid (Below w.heap.size w w2) := HB.out.grown hgr2 (by simp; omega) (by intro k hk; simp [Value.ownBlock] at hk; omega)
  have O2 : Hid (OwnV (w.heap.size + 1) w2 u1 (r.take i)) := ho2
  have HX2 : Hid (w2.heap[w.heap.size]? = some (.cells #[.int .i64 2, .int .i64 (i : Int), .int .i64 ck, .int .i64 dk, .int .i64 dn, .string s] 29 (0, 0))) := (hgr2.block _ (lt_block HX.out) (by simp [Value.ownBlock])).trans HX.out
  have R2 : Hid (∀ W, Below w.heap.size w W → Recs vEnc 3 W (.slice (some ⟨b, off, none⟩) r.length cap) r) := fun W hW => HRW.out.keep hW
  have hw2 : w.heap.size < w2.heap.size := lt_block HX2.out
  obtain ⟨⟨c0, c1, c2, c3, c4, c5⟩, -⟩ := cells6 HX2.out
  clear ho2 hgr2 HB HX HR0 HO0 HT0
  have HDD : Hid (∀ W, Below w2.heap.size w2 W → Recs vEnc 3 W (.slice (some ⟨b, off + (i + 1) * 3, none⟩) (r.length - (i + 1)) (cap - (i + 1))) (r.drop (i + 1))) := fun W hW => (R2.out W (H2.out.trans (hW.mono H2.out.size))).drop (i + 1) (by omega)
  have HD0 : Hid (cap = (i + 1) → ∀ W, Below w2.heap.size w2 W → Recs vEnc 3 W (.slice (some ⟨b, off, none⟩) 0 0) (r.drop (i + 1))) := fun hc W hW => by
    have := (R2.out W (H2.out.trans (hW.mono H2.out.size))).drop0 (i + 1) (by omega) hc
    rw [show r.length - (i + 1) = 0 by omega, show cap - (i + 1) = 0 by omega] at this
    exact this
  have HXX : Hid (∀ W, Below w2.heap.size w2 W → W.heap[w.heap.size]? = some (.cells #[.int .i64 2, .int .i64 (i : Int), .int .i64 ck, .int .i64 dk, .int .i64 dn, .string s] 29 (0, 0))) := fun W hW => blk_own hW HX2.out
  have OB := hide (OwnR.base O2.out)
  have HBS : Hid (∀ k, u1.ownBlock = some k → w.heap.size ≤ k) := fun k hk => by have := OB.out k hk; omega
  have hw1 : IntKind.i64.wrap ((i : Int) + 1) = (i : Int) + 1 := by rw [IntKind.wrap_i64]; omega
  have htn : ((i : Int) + 1).toNat = i + 1 := by omega
  have hi0 : (0 : Int) ≤ (i : Int) + 1 := by omega
  have hi1 : (i : Int) + 1 ≤ (r.length : Int) := by omega
  by_cases hci : cap = (i + 1)
  · replace HD0 := hide (HD0.out hci)
    subst hci
    go_wp2_with (at_builtin; refine wpList_appR (enc := vEnc) (k := 3) (by decide) vEnc_len vEnc_one rfl (.tmp 44) (.tmp 49) 56 25 rfl 32 (by decide) Tryd.underlying56 _ infoV rfl (w.heap.size + 1) u1 (r.take i) rfl O2.out (by simp; omega) (.slice (some ⟨b, off, none⟩) 0 0) (r.drop (i + 1)) rfl (HD0.out _ (Below.refl _ _)) (by simp; omega) (by have := H2.out.size; have := lt_block HX2.out; omega) ?_)
    intro u3 w3 ho3 hgr3
    have H3 : Hid (Below w.heap.size w w3) := H2.out.grown hgr3 H2.out.size HBS.out
    have O3 : Hid (OwnV w.heap.size w3 u3 (r.take i ++ r.drop (i + 1))) := OwnR.mono ho3 (by omega)
    clear ho3 hgr3 c0 c1 c2 c3 c4 c5
    go_wp2_with fail
    go_ret
    exact ⟨u3, rfl, O3.out, H3.out⟩
  · go_wp2_with (at_builtin; refine wpList_appR (enc := vEnc) (k := 3) (by decide) vEnc_len vEnc_one rfl (.tmp 44) (.tmp 49) 56 25 rfl 32 (by decide) Tryd.underlying56 _ infoV rfl (w.heap.size + 1) u1 (r.take i) rfl O2.out (by simp; omega) (.slice (some ⟨b, off + (i + 1) * 3, none⟩) (r.length - (i + 1)) (cap - (i + 1))) (r.drop (i + 1)) rfl (HDD.out _ (Below.refl _ _)) (by simp; omega) (by have := H2.out.size; have := lt_block HX2.out; omega) ?_)
    intro u3 w3 ho3 hgr3
    have H3 : Hid (Below w.heap.size w w3) := H2.out.grown hgr3 H2.out.size HBS.out
    have O3 : Hid (OwnV w.heap.size w3 u3 (r.take i ++ r.drop (i + 1))) := OwnR.mono ho3 (by omega)
    clear ho3 hgr3 c0 c1 c2 c3 c4 c5
    go_wp2_with fail
    go_ret
    exact ⟨u3, rfl, O3.out, H3.out⟩
end Go.Proofs.YtdijcdadcbhipaaDoor
