/-
  The generators of catalogs and of what is asked of them.
-/
import Derived.Test.YteikeljklfblmaaCatDraw2
set_option linter.all false
namespace Go.Proofs.Yteikeljklfblmaa
open Go.RowKit
theorem bytesAt_alloc {w : World} {v : Value} (h : BytesAt w v) (o : Obj) : BytesAt (w.alloc o) v := by
  obtain ⟨a, len, cap, rfl, h1, h2, h3⟩ := h
  refine ⟨a, len, cap, rfl, h1, h2, ?_⟩
  have h4 := h3.keep ((Below.refl w.heap.size w).alloc (Nat.le_refl _) o) (Nat.le_refl _)
  rcases h4 with h4 | ⟨b, off, e, hlt, hc⟩
  · exact .inl h4
  · exact .inr ⟨b, off, e, by simp; omega, hc⟩
structure DrawCat (w w' : World) (g cap : Nat) (l : List Ent) : Prop where
  own : OwnE w.heap.size w' (.slice (some ⟨g, 0, none⟩) l.length cap) l
  len : l.length ≤ 13
  sz : Sz l
  below : Below w.heap.size w w'
theorem DrawCat.by {w wi wj : World} {gv cap g : Nat} {l : List Ent} (h : DrawCat w wi gv cap l) (hg : wi.grownBy wj (some g)) (hlo : w.heap.size ≤ g) (hne : gv ≠ g) : DrawCat w wj gv cap l :=
  ⟨World.ownsRow.kept h.own hg (.inr (fun e => hne (by simpa [Value.ownBlock] using e))), h.len, h.sz, h.below.grown hg h.below.size (fun q hq => by cases hq; exact hlo)⟩
theorem DrawCat.keep {w wi wj : World} {gv cap : Nat} {l : List Ent} (h : DrawCat w wi gv cap l) (hb : Below wi.heap.size wi wj) : DrawCat w wj gv cap l :=
  ⟨h.own.keep hb, h.len, h.sz, h.below.trans (hb.mono h.below.size)⟩
set_option maxHeartbeats 2000000 in
theorem drawValidCatalog_any (v : Value) (w : World) (h : BytesAt w v) :
    Calls Try.prog 14 #[v] w fun e w' => ∃ g cap l, e = .returned (.slice (some ⟨g, 0, none⟩) l.length cap) ∧ (l.length ≤ cap ∧ cap ≤ 9223372036854775807) ∧ DrawCat w w' g cap l := by
  have HV := hide h
  clear h
  go_enter Try.func14, Try.ntmps14
  go_wp2_with fail
  refine (newReader_any v w HV.out).mono ?_
  rintro e w1 ⟨g, rfl, hg, hr, hb1⟩
  have hgw : w.heap.size ≤ g := by omega
  have R1 := hide hr
  have HB1 := hide hb1
  have hgl := hr.lt
  clear hr hb1
  go_wp2_with fail
  refine (anyCatalog_any g 0 w1 R1.out (by omega) (by omega)).mono ?_
  rintro e w2 ⟨gv, cap, l, q, rfl, ho, hl, hz, hr2, hq, hg2⟩
  have hgv : w1.heap.size ≤ gv := (World.ownsRow.lt ho gv rfl).1
  have hcp := row_caps ho
  have D : Hid (DrawCat w w2 gv cap l) := ⟨own_mono ho HB1.out.size, hl, hz, HB1.out.grown hg2 HB1.out.size (fun q hq => by cases hq; exact hgw)⟩
  have R := hide hr2
  clear ho hl hz hr2 hg2
  go_wp2_with fail
  go_ret
  exact ⟨gv, cap, l, rfl, hcp, D.out⟩
set_option maxHeartbeats 2000000 in
theorem drawDropEntry_any (v : Value) (w : World) (h : BytesAt w v) :
    Calls Try.prog 20 #[v] w fun e w' => ∃ g cap l nm, e = .returned (.tuple #[.slice (some ⟨g, 0, none⟩) l.length cap, .string nm]) ∧ nm.size ≤ 100 ∧ (l.length ≤ cap ∧ cap ≤ 9223372036854775807) ∧ DrawCat w w' g cap l := by
  have HV := hide h
  clear h
  go_enter Try.func20, Try.ntmps20
  go_wp2_with fail
  refine (newReader_any v w HV.out).mono ?_
  rintro e w1 ⟨g, rfl, hg, hr, hb1⟩
  have hgw : w.heap.size ≤ g := by omega
  have R1 := hide hr
  have HB1 := hide hb1
  have hgl := hr.lt
  clear hr hb1
  go_wp2_with fail
  refine (anyCatalog_any g 0 w1 R1.out (by omega) (by omega)).mono ?_
  rintro e w2 ⟨gv, cap, l, q, rfl, ho, hl, hz, hr2, hq, hg2⟩
  have hgv : w1.heap.size ≤ gv := (World.ownsRow.lt ho gv rfl).1
  have hcp := row_caps ho
  have D : Hid (DrawCat w w2 gv cap l) := ⟨own_mono ho HB1.out.size, hl, hz, HB1.out.grown hg2 HB1.out.size (fun q hq => by cases hq; exact hgw)⟩
  have R := hide hr2
  clear ho hl hz hr2 hg2
  go_wp2_with fail
  refine (someName_any g q w2 R.out (by omega)).mono ?_
  rintro e w3 ⟨nm, rfl, hnz, hr3, hg3⟩
  have D : Hid (DrawCat w w3 gv cap l) := D.out.by hg3 hgw (by omega)
  have R := hide hr3
  clear hr3 hg3
  go_wp2_with fail
  all_goals go_tidy
  refine ⟨rfl, .tuple #[.slice (some ⟨gv, 0, none⟩) l.length cap, .string nm], by simp [results, Try.results20, go_sem], ⟨gv, cap, l, nm, rfl, hnz, hcp, D.out⟩⟩
set_option maxHeartbeats 2000000 in
theorem drawUsableIndexes_any (v : Value) (w : World) (h : BytesAt w v) :
    Calls Try.prog 24 #[v] w fun e w' => ∃ g cap l nm b, e = .returned (.tuple #[.slice (some ⟨g, 0, none⟩) l.length cap, .string nm, .bool b]) ∧ nm.size ≤ 100 ∧ (l.length ≤ cap ∧ cap ≤ 9223372036854775807) ∧ DrawCat w w' g cap l := by
  have HV := hide h
  clear h
  go_enter Try.func24, Try.ntmps24
  go_wp2_with fail
  refine (newReader_any v w HV.out).mono ?_
  rintro e w1 ⟨g, rfl, hg, hr, hb1⟩
  have hgw : w.heap.size ≤ g := by omega
  have R1 := hide hr
  have HB1 := hide hb1
  have hgl := hr.lt
  clear hr hb1
  go_wp2_with fail
  refine (anyCatalog_any g 0 w1 R1.out (by omega) (by omega)).mono ?_
  rintro e w2 ⟨gv, cap, l, q, rfl, ho, hl, hz, hr2, hq, hg2⟩
  have hgv : w1.heap.size ≤ gv := (World.ownsRow.lt ho gv rfl).1
  have hcp := row_caps ho
  have D : Hid (DrawCat w w2 gv cap l) := ⟨own_mono ho HB1.out.size, hl, hz, HB1.out.grown hg2 HB1.out.size (fun q hq => by cases hq; exact hgw)⟩
  have R := hide hr2
  clear ho hl hz hr2 hg2
  go_wp2_with fail
  refine (someName_any g q w2 R.out (by omega)).mono ?_
  rintro e w3 ⟨nm, rfl, hnz, hr3, hg3⟩
  have D : Hid (DrawCat w w3 gv cap l) := D.out.by hg3 hgw (by omega)
  have R := hide hr3
  clear hr3 hg3
  go_wp2_with fail
  refine (pick_any g (q + 1) 2 w3 R.out (by omega)).mono ?_
  rintro e w4 ⟨r, rfl, -, hr4, hg4⟩
  have D : Hid (DrawCat w w4 gv cap l) := D.out.by hg4 hgw (by omega)
  clear hr4 hg4
  go_wp2_with fail
  all_goals go_tidy
  refine ⟨rfl, .tuple #[.slice (some ⟨gv, 0, none⟩) l.length cap, .string nm, .bool (r == 0)], by simp [results, Try.results24, go_sem], ⟨gv, cap, l, nm, _, rfl, hnz, hcp, D.out⟩⟩
set_option maxHeartbeats 2000000 in
theorem drawSetState_any (v : Value) (w : World) (h : BytesAt w v) :
    Calls Try.prog 31 #[v] w fun e w' => ∃ g cap l nm st, e = .returned (.tuple #[.slice (some ⟨g, 0, none⟩) l.length cap, .string nm, .int .i64 st]) ∧ nm.size ≤ 100 ∧ (l.length ≤ cap ∧ cap ≤ 9223372036854775807) ∧ DrawCat w w' g cap l := by
  have HV := hide h
  clear h
  go_enter Try.func31, Try.ntmps31
  go_wp2_with fail
  refine (newReader_any v w HV.out).mono ?_
  rintro e w1 ⟨g, rfl, hg, hr, hb1⟩
  have hgw : w.heap.size ≤ g := by omega
  have R1 := hide hr
  have HB1 := hide hb1
  have hgl := hr.lt
  clear hr hb1
  go_wp2_with fail
  refine (anyCatalog_any g 0 w1 R1.out (by omega) (by omega)).mono ?_
  rintro e w2 ⟨gv, cap, l, q, rfl, ho, hl, hz, hr2, hq, hg2⟩
  have hgv : w1.heap.size ≤ gv := (World.ownsRow.lt ho gv rfl).1
  have hcp := row_caps ho
  have D : Hid (DrawCat w w2 gv cap l) := ⟨own_mono ho HB1.out.size, hl, hz, HB1.out.grown hg2 HB1.out.size (fun q hq => by cases hq; exact hgw)⟩
  have R := hide hr2
  clear ho hl hz hr2 hg2
  go_wp2_with fail
  refine (someName_any g q w2 R.out (by omega)).mono ?_
  rintro e w3 ⟨nm, rfl, hnz, hr3, hg3⟩
  have D : Hid (DrawCat w w3 gv cap l) := D.out.by hg3 hgw (by omega)
  have R := hide hr3
  clear hr3 hg3
  go_wp2_with fail
  refine (one_lit g (q + 1) _ 4 _ [1, 2, 0, 3] _ (R.out.alloc _) (by omega) (blk_alloc _ _) (by have := R.out.lt; omega) (by decide) (by decide)).mono ?_
  rintro e w4 ⟨r, rfl, -, hr4, hg4⟩
  have D : Hid (DrawCat w w4 gv cap l) := (D.out.keep ((Below.refl _ _).alloc (Nat.le_refl _) _)).by hg4 hgw (by omega)
  clear hr4 hg4
  go_wp2_with fail
  all_goals go_tidy
  refine ⟨rfl, .tuple #[.slice (some ⟨gv, 0, none⟩) l.length cap, .string nm, .int .i64 r], by simp [results, Try.results31, go_sem], ⟨gv, cap, l, nm, _, rfl, hnz, hcp, D.out⟩⟩
set_option maxHeartbeats 2000000 in
theorem drawAddEntry_any (v : Value) (w : World) (h : BytesAt w v) :
    Calls Try.prog 28 #[v] w fun e w' => ∃ g cap l, ∃ x : Ent, e = .returned (.tuple #[.slice (some ⟨g, 0, none⟩) l.length cap, .agg #[.string x.n, .string x.t, .int .i64 x.s]]) ∧ (x.n.size ≤ 100 ∧ x.t.size ≤ 100) ∧ (l.length ≤ cap ∧ cap ≤ 9223372036854775807) ∧ DrawCat w w' g cap l := by
  have HV := hide h
  clear h
  go_enter Try.func28, Try.ntmps28
  go_wp2_with fail
  refine (newReader_any v _ ((show BytesAt (w.alloc _) v from bytesAt_alloc HV.out _))).mono ?_
  rintro e w1 ⟨g, rfl, hg, hr, hb1⟩
  have X1 := hide (blk_own hb1 (blk_alloc w _))
  have hg : w.heap.size + 1 ≤ g := by simpa using hg
  have hb1 : Below w.heap.size w w1 := (((Below.refl w.heap.size w).alloc (Nat.le_refl _) _)).trans (hb1.mono (by simp))
  have hgw : w.heap.size ≤ g := by omega
  have R1 := hide hr
  have HB1 := hide hb1
  have hgl := hr.lt
  clear hr hb1
  go_wp2_with fail
  refine (anyCatalog_any g 0 w1 R1.out (by omega) (by omega)).mono ?_
  rintro e w2 ⟨gv, cap, l, q, rfl, ho, hl, hz, hr2, hq, hg2⟩
  have hgv : w1.heap.size ≤ gv := (World.ownsRow.lt ho gv rfl).1
  have hcp := row_caps ho
  have D : Hid (DrawCat w w2 gv cap l) := ⟨own_mono ho HB1.out.size, hl, hz, HB1.out.grown hg2 HB1.out.size (fun q hq => by cases hq; exact hgw)⟩
  have R := hide hr2
  have X := hide (blk_by hg2 X1.out (by omega))
  clear ho hl hz hr2 hg2
  go_wp2_with fail
  refine (of_lit g q _ 6 _ [⟨#[110, 101, 119]⟩, ⟨#[98, 111, 111, 107, 115]⟩, ⟨#[113]⟩, ⟨#[81]⟩, ⟨#[]⟩, ⟨#[97, 98, 99, 100, 101, 102, 103, 104, 105]⟩] _ (R.out.alloc _) (by omega) (blk_alloc _ _) (by have := R.out.lt; omega) (by decide) (by decide)).mono ?_
  rintro e w3 ⟨xa, rfl, ha, hr3, hg3⟩
  have zxa := hide ((show ∀ r ∈ ([⟨#[110, 101, 119]⟩, ⟨#[98, 111, 111, 107, 115]⟩, ⟨#[113]⟩, ⟨#[81]⟩, ⟨#[]⟩, ⟨#[97, 98, 99, 100, 101, 102, 103, 104, 105]⟩] : List ByteArray), r.size ≤ 100 from by decide) _ ha)
  have D : Hid (DrawCat w w3 gv cap l) := (D.out.keep ((Below.refl _ _).alloc (Nat.le_refl _) _)).by hg3 hgw (by omega)
  have X := hide (blk_by hg3 (blk_keep X.out _) (by omega))
  have R := hide hr3
  clear hr3 hg3 ha
  go_wp2_with fail
  refine (of_lit g (q + 1) _ 4 _ [⟨#[]⟩, ⟨#[98, 111, 111, 107, 115]⟩, ⟨#[117, 115, 101, 114, 115]⟩, ⟨#[110, 111, 110, 101]⟩] _ (R.out.alloc _) (by omega) (blk_alloc _ _) (by have := R.out.lt; omega) (by decide) (by decide)).mono ?_
  rintro e w4 ⟨xb, rfl, ha, hr3, hg3⟩
  have zxb := hide ((show ∀ r ∈ ([⟨#[]⟩, ⟨#[98, 111, 111, 107, 115]⟩, ⟨#[117, 115, 101, 114, 115]⟩, ⟨#[110, 111, 110, 101]⟩] : List ByteArray), r.size ≤ 100 from by decide) _ ha)
  have D : Hid (DrawCat w w4 gv cap l) := (D.out.keep ((Below.refl _ _).alloc (Nat.le_refl _) _)).by hg3 hgw (by omega)
  have X := hide (blk_by hg3 (blk_keep X.out _) (by omega))
  have R := hide hr3
  clear hr3 hg3 ha
  go_wp2_with fail
  refine (one_lit g (q + 1 + 1) _ 4 _ [1, 0, 2, 3] _ (R.out.alloc _) (by omega) (blk_alloc _ _) (by have := R.out.lt; omega) (by decide) (by decide)).mono ?_
  rintro e w5 ⟨xc, rfl, -, hr3, hg3⟩
  have D : Hid (DrawCat w w5 gv cap l) := (D.out.keep ((Below.refl _ _).alloc (Nat.le_refl _) _)).by hg3 hgw (by omega)
  have X := hide (blk_by hg3 (blk_keep X.out _) (by omega))
  clear hr3 hg3
  obtain ⟨⟨c0, c1, c2⟩, f0, f1, f2⟩ := cells3 X.out
  have hw5 : w.heap.size < w5.heap.size := lt_block X.out
  have X2 := blk_set3 (c0 := .string xa) (c1 := .string xb) (c2 := .int .i64 xc) X.out
  have D2 : Hid (DrawCat w (((w5.setCell ⟨w.heap.size, 0, none⟩ (.string xa)).setCell ⟨w.heap.size, 1, none⟩ (.string xb)).setCell ⟨w.heap.size, 2, none⟩ (.int .i64 xc)) gv cap l) :=
    ((D.out.by (grown_setCell _ _ _ _) (Nat.le_refl _) (by omega)).by (grown_setCell _ _ _ _) (Nat.le_refl _) (by omega)).by (grown_setCell _ _ _ _) (Nat.le_refl _) (by omega)
  obtain ⟨⟨y0, y1, y2⟩, -⟩ := cells3 X2
  go_wp2_with fail
  all_goals go_tidy
  refine ⟨rfl, .tuple #[.slice (some ⟨gv, 0, none⟩) l.length cap, .agg #[.string xa, .string xb, .int .i64 xc]], by simp [results, Try.results28, go_sem, y0, y1, y2], ⟨gv, cap, l, ⟨xa, xb, xc⟩, rfl, ⟨zxa.out, zxb.out⟩, hcp, D2.out⟩⟩
end Go.Proofs.Yteikeljklfblmaa
