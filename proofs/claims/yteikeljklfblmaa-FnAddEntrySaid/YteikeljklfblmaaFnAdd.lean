/-
  The walk of FnAddEntry.
-/
import Derived.Test.YteikeljklfblmaaCatLaw2
set_option linter.all false
namespace Go.Proofs.Yteikeljklfblmaa
open Go.RowKit
def BoxI (g : Nat) (w : World) (e : Ent) : Prop := w.heap[g]? = some (.cells #[.string e.n, .string e.t, .int .i64 e.s] 27 (0, 0))
theorem BoxI.keep {g : Nat} {w w' : World} {e : Ent} (h : BoxI g w e) (hb : Below w.heap.size w w') : BoxI g w' e := blk_own hb h
set_option maxHeartbeats 4000000 in
set_option maxRecDepth 100000 in
theorem fnAddEntry_walk (v : Value) (w : World) (h : BytesAt w v) :
    Calls Try.prog 8 #[v] w fun e w' => e = .returned (.bool true) ∧ Below w.heap.size w w' := by
  have hB := hide h
  obtain ⟨a, len, cap0, rfl, hlc, hcap0, hr⟩ := h
  clear hr
  by_cases hlen : 1048576 < len
  · go_enter Try.func8, Try.ntmps8
    go_wp2_with fail
    go_ret
    exact ⟨rfl, Below.refl _ _⟩
  go_enter Try.func8, Try.ntmps8
  go_wp2_with fail
  refine (drawAddEntry_any _ _ hB.out).mono ?_
  rintro e w1 ⟨g0, cap, l, x, rfl, hxz, hcp, D⟩
  have H := hide D.below
  have hl13 := D.len
  have SZ := hide (sz_big D.sz)
  have E := hide (OwnE.ents D.own (sz_big D.sz))
  clear D hB
  have XZ : x.n.size ≤ 9223372036854775807 ∧ x.t.size ≤ 9223372036854775807 := by omega
  obtain ⟨ok, hok⟩ : ∃ ok, addOk l x = ok := ⟨_, rfl⟩
  obtain ⟨R, hR⟩ : ∃ R, addR l x = R := ⟨_, rfl⟩
  have RZ : Hid (∀ e ∈ R, e.n.size ≤ 9223372036854775807 ∧ e.t.size ≤ 9223372036854775807) := by rw [← hR]; exact addR_sizes SZ.out XZ
  have HOK := hide hok
  have HR := hide hR
  clear hok hR
  go_wp2_with fail
  have HAL : Below w1.heap.size w1 (w1.alloc (.cells #[.string x.n, .string x.t, .int .i64 x.s] 27)) := (Below.refl _ _).alloc (Nat.le_refl _) _
  have XB : Hid (BoxI w1.heap.size (w1.alloc (.cells #[.string x.n, .string x.t, .int .i64 x.s] 27)) x) := blk_alloc w1 _
  have E := hide (E.out.keep HAL)
  have H : Hid (Below w.heap.size w (w1.alloc (.cells #[.string x.n, .string x.t, .int .i64 x.s] 27))) := H.out.trans (HAL.mono H.out.size)
  clear HAL
  refine (iAddEntry_any x _ l _ E.out XZ).mono ?_
  rintro e w2 ⟨v2, rfl, ho, hb⟩
  rw [HOK.out]
  rw [HR.out] at ho
  have A := hide (ho.ents RZ.out)
  have E := hide (E.out.keep hb)
  have XB := hide (XB.out.keep hb)
  have H : Hid (Below w.heap.size w w2) := H.out.trans (hb.mono H.out.size)
  clear ho hb
  obtain ⟨⟨c0, c1, c2⟩, -⟩ := cells3 XB.out
  go_wp2_with fail
  refine (sAddEntry_any x _ l _ E.out XZ ⟨_, _, _, rfl⟩).mono ?_
  rintro e w3 ⟨v3, rfl, ho, hb⟩
  clear c0 c1 c2
  rw [HOK.out]
  rw [HR.out] at ho
  have A := hide (A.out.keep hb)
  have B := hide (ho.ents RZ.out)
  have E := hide (E.out.keep hb)
  have XB := hide (XB.out.keep hb)
  have H : Hid (Below w.heap.size w w3) := H.out.trans (hb.mono H.out.size)
  clear ho hb
  go_wp2_with fail
  refine (equalEntries_same v2 v3 R _ A.out B.out).mono ?_
  rintro e w4 ⟨rfl, hb⟩
  have A := hide (A.out.keep hb)
  have B := hide (B.out.keep hb)
  have E := hide (E.out.keep hb)
  have XB := hide (XB.out.keep hb)
  have H : Hid (Below w.heap.size w w4) := H.out.trans (hb.mono H.out.size)
  clear hb
  cases ok with
  | false =>
    go_wp2_with fail
    refine (equalEntries_same v2 v3 R _ A.out B.out).mono ?_
    rintro e w5 ⟨rfl, hb⟩
    have H : Hid (Below w.heap.size w w5) := H.out.trans (hb.mono H.out.size)
    clear hb
    go_wp2_with fail
    go_ret
    exact ⟨rfl, H.out⟩
  | true =>
    obtain ⟨lw1, lw2⟩ := add_law HOK.out
    have hRx : R = l ++ [x] := by rw [← HR.out, addR, HOK.out]; rfl
    rw [← hRx] at lw1 lw2
    have hdr : dropR R x.n = l := by rw [dropR, if_pos lw1, lw2]
    have hct : catB R = true := (by simp only [dropOk, Bool.and_eq_true] at lw1; exact lw1.1)
    have L1 := hide lw1
    have L2 := hide hdr
    have L3 := hide hct
    clear lw1 lw2 hRx hdr hct
    obtain ⟨⟨c0, c1, c2⟩, -⟩ := cells3 XB.out
    go_wp2_with fail
    refine (iDropEntry_any x.n _ R _ A.out).mono ?_
    rintro e w5 ⟨v5, rfl, ho, hb⟩
    rw [L1.out]
    rw [L2.out] at ho
    have B := hide (ho.ents SZ.out)
    have A := hide (A.out.keep hb)
    have E := hide (E.out.keep hb)
    have H : Hid (Below w.heap.size w w5) := H.out.trans (hb.mono H.out.size)
    clear ho hb c0 c1 c2
    go_wp2_with fail
    refine (equalEntries_same _ _ l _ B.out E.out).mono ?_
    rintro e w6 ⟨rfl, hb⟩
    have A := hide (A.out.keep hb)
    have H : Hid (Below w.heap.size w w6) := H.out.trans (hb.mono H.out.size)
    clear hb
    go_wp2_with fail
    refine (ivalidCatalog_any _ R _ A.out).mono ?_
    rintro e w7 ⟨rfl, hb⟩
    rw [L3.out]
    have H : Hid (Below w.heap.size w w7) := H.out.trans (hb.mono H.out.size)
    clear hb
    go_wp2_with fail
    go_ret
    exact ⟨rfl, H.out⟩
end Go.Proofs.Yteikeljklfblmaa
