/-
  ChangeFormat of the program.
-/
import Derived.Test.YtdijcdadcbhipaaDoorFCl
import Derived.Test.YtdijcdadcbhipaaDoorFDelC
import Derived.Test.YtdijcdadcbhipaaDoorFInsC
import Derived.RegionCalls
import Derived.Deep.RegionLaw
import Derived.Deep.DeepCutAuto
set_option linter.all false
namespace Go.Proofs.YtdijcdadcbhipaaDoor
open Go.RowKit
/-- the format after a change that is possible -/
def newC (f : List RCol) (c : RChg) : List RCol :=
  if c.k = 1 then f.take c.a.toNat ++ [c.c] ++ f.drop c.a.toNat
  else if c.k = 2 then f.take c.a.toNat ++ f.drop (c.a.toNat + 1)
  else f.take c.a.toNat ++ ((f.drop c.a.toNat).take 1).map (fun x => ⟨2, widV x.d⟩) ++ f.drop (c.a.toNat + 1)
def chC (f : List RCol) (c : RChg) : Option (List RCol) := if fmtB f && posB f c then some (newC f c) else none
/-- what a call hands back that returns a format, or none -/
def CRet (w : World) (o : Option (List RCol)) (e : Ending) (w' : World) : Prop :=
  Below w.heap.size w w' ∧ match o with
    | none => e = .returned (.tuple #[.slice none 0 0, .bool false])
    | some g => ∃ v', e = .returned (.tuple #[v', .bool true]) ∧ OwnC w.heap.size w' v' g
theorem drop_one {α : Type} {l : List α} {i : Nat} (h : i < l.length) : (l.drop i).take 1 = [l[i]] := by
  rw [List.drop_eq_getElem_cons h]; rfl
theorem set_take {α : Type} (l : List α) (i : Nat) (x : α) (h : i < l.length) : l.set i x = l.take i ++ [x] ++ l.drop (i + 1) := by
  rw [List.set_eq_take_append_cons_drop, if_pos h]; simp
set_option maxHeartbeats 8000000 in
set_option maxRecDepth 100000 in
theorem iChange_lit (k at' ck dk dn : Int) (s : ByteArray) (v : Value) (f : List RCol) (w : World) (h : Recs cEnc 4 w v f) (ht : Tab w) :
    Calls Tryd.prog 16 #[v, .agg #[.int .i64 k, .int .i64 at', .int .i64 ck, .int .i64 dk, .int .i64 dn, .string s]] w (CRet w (chC f ⟨k, at', ⟨ck, ⟨dk, dn, s⟩⟩⟩)) := by
  obtain ⟨R, hR⟩ : ∃ R, R = chC f ⟨k, at', ⟨ck, ⟨dk, dn, s⟩⟩⟩ := ⟨_, rfl⟩
  rw [← hR]
  have HB := hide (below_box w (.cells #[.int .i64 k, .int .i64 at', .int .i64 ck, .int .i64 dk, .int .i64 dn, .string s] 29))
  have HX := hide (blk_alloc w (.cells #[.int .i64 k, .int .i64 at', .int .i64 ck, .int .i64 dk, .int .i64 dn, .string s] 29))
  have HF0 := hide (h.keep HB.out)
  have HV := hide (ivalidFormat_any v f _ HF0.out)
  have HP := hide (fun w h => possible_lit k at' ck dk dn s v f w h)
  obtain ⟨a, cap, rfl, hl, hcap⟩ := h.shape
  cases hv : fmtB f with
  | false =>
    have HR : Hid (R = none) := by unfold Hid; rw [hR]; simp [chC, hv]
    rw [hv] at HV
    clear hR hv h HP
    go_enter Tryd.func16, Tryd.ntmps16
    go_wp2_with fail
    with_reducible refine HV.out.mono ?_
    rintro e w1 ⟨rfl, hb1⟩
    have H1 := hide (HB.out.trans (hb1.mono HB.out.size))
    clear hb1
    go_wp2_with fail
    all_goals go_tidy
    exact ⟨rfl, .tuple #[.slice none 0 0, .bool false], by simp [results, Tryd.results16, go_sem], H1.out, by rw [HR.out]⟩
  | true =>
    rw [hv] at HV
    have HLEN : Hid (1 ≤ f.length ∧ f.length ≤ 5 ∧ f.all colB = true) := by
      unfold Hid; unfold fmtB at hv; simp at hv; exact ⟨hv.1.1, hv.1.2, by rw [List.all_eq_true]; exact hv.2⟩
    cases hp : posB f ⟨k, at', ⟨ck, ⟨dk, dn, s⟩⟩⟩ with
    | false =>
      have HR : Hid (R = none) := by unfold Hid; rw [hR]; simp [chC, hp]
      rw [hp] at HP
      clear hR hv hp h
      go_enter Tryd.func16, Tryd.ntmps16
      go_wp2_with fail
      with_reducible refine HV.out.mono ?_
      rintro e w1 ⟨rfl, hb1⟩
      have H1 := hide (HB.out.trans (hb1.mono HB.out.size))
      have HF1 := hide (HF0.out.keep hb1)
      obtain ⟨⟨c0, c1, c2, c3, c4, c5⟩, -⟩ := cells6 (blk_own hb1 HX.out)
      clear hb1
      go_wp2_with fail
      with_reducible refine (HP.out _ HF1.out).mono ?_
      rintro e w2 ⟨rfl, hb2⟩
      have H2 := hide (H1.out.trans (hb2.mono H1.out.size))
      clear hb2
      go_wp2_with fail
      all_goals go_tidy
      exact ⟨rfl, .tuple #[.slice none 0 0, .bool false], by simp [results, Tryd.results16, go_sem], H2.out, by rw [HR.out]⟩
    | true =>
      have HR : Hid (R = some (newC f ⟨k, at', ⟨ck, ⟨dk, dn, s⟩⟩⟩)) := by unfold Hid; rw [hR]; simp [chC, hp, hv]
      rw [hp] at HP
      clear hR hv h
      go_enter Tryd.func16, Tryd.ntmps16
      go_wp2_with fail
      with_reducible refine HV.out.mono ?_
      rintro e w1 ⟨rfl, hb1⟩
      have H1 := hide (HB.out.trans (hb1.mono HB.out.size))
      have HF1 := hide (HF0.out.keep hb1)
      have HX1 := hide (blk_own hb1 HX.out)
      obtain ⟨⟨c0, c1, c2, c3, c4, c5⟩, -⟩ := cells6 HX1.out
      clear hb1
      go_wp2_with fail
      with_reducible refine (HP.out _ HF1.out).mono ?_
      rintro e w2 ⟨rfl, hb2⟩
      have H2 := hide (H1.out.trans (hb2.mono H1.out.size))
      have HF2 := hide (HF1.out.keep hb2)
      have HX2 := hide (blk_own hb2 HX1.out)
      clear hb2 c0 c1 c2 c3 c4 c5
      go_wp2_with fail
      with_reducible refine (cloneC_any _ f _ HF2.out (by have := HLEN.out.2.1; omega)).mono ?_
      rintro e w3 ⟨v6, rfl, ho, hb3⟩
      have H3 := hide (H2.out.trans (hb3.mono H2.out.size))
      have HX3 := hide (blk_own hb3 HX2.out)
      obtain ⟨g, gc, rfl, hg1, hg2, hg3, hg4⟩ := ho.at HLEN.out.1
      have HG := hide hg1
      have hb3s := hide hb3.size
      have HO := hide ho
      have hwg : w.heap.size < w2.heap.size := lt_block HX2.out
      obtain ⟨⟨c0, c1, c2, c3, c4, c5⟩, -⟩ := cells6 HX3.out
      clear hb3 ho hg1
      by_cases k1 : k = 1
      · subst k1
        simp [posB] at hp
        obtain ⟨⟨⟨p0, p1⟩, p2⟩, -⟩ := hp
        obtain ⟨i, rfl⟩ : ∃ i : Nat, at' = (i : Int) := ⟨at'.toNat, by omega⟩
        have HE : Hid (newC f ⟨1, (i : Int), ⟨ck, ⟨dk, dn, s⟩⟩⟩ = f.take i ++ [⟨ck, ⟨dk, dn, s⟩⟩] ++ f.drop i) := by simp [Hid, newC]
        have HI := hide (insColumn_any w2.heap.size w3.heap.size 1 f.length i (.slice (some ⟨g, 0, none⟩) f.length gc) (f.flatMap cEnc) [.int .i64 ck, .int .i64 dk, .int .i64 dn, .string s] (w3.alloc (.cells #[.int .i64 ck, .int .i64 dk, .int .i64 dn, .string s] 27)) (HO.out.alloc _) (by have := H2.out.size; have := hb3s.out; simp; omega) (by omega) (by omega) rfl (flat_one cEnc_one f) (cEnc_one ⟨ck, ⟨dk, dn, s⟩⟩) (blk_alloc _ _) (by simp [Value.ownBlock]; omega))

        go_wp2_with fail
        with_reducible refine HI.out.mono ?_
        rintro e w4 ⟨g', cap', rfl, ho4, hg4', hat⟩
        have H4 : Hid (Below w.heap.size w w4) := ((H3.out.alloc H3.out.size _).grown hg4' (by have := H3.out.size; simp; omega) (by intro k hk; simp [Value.ownBlock] at hk; subst hk; have := HG.out; omega))
        have HF : Hid (OwnC w.heap.size w4 (.slice (some ⟨g', 0, none⟩) (f.length + 1) cap') (newC f ⟨1, (i : Int), ⟨ck, ⟨dk, dn, s⟩⟩⟩)) := by
          have := OwnR.mono (enc := cEnc) (l := f.take i ++ [⟨ck, ⟨dk, dn, s⟩⟩] ++ f.drop i) (k := 4) (e := 27) (C := w.heap.size) (B := w2.heap.size) (w := w4) (v := .slice (some ⟨g', 0, none⟩) (f.length + 1) cap') (by
            unfold OwnR
            rw [List.flatMap_append, List.flatMap_append, flat_take cEnc_len f i (by omega), flat_drop cEnc_len f i (by omega), show (f.take i ++ ([⟨ck, ⟨dk, dn, s⟩⟩] : List RCol) ++ f.drop i).length = f.length + 1 by simp; omega]
            exact ho4) (by omega)
          unfold Hid; rw [HE.out]; exact this
        clear ho4 hg4' hat
        go_wp2_with fail
        all_goals go_tidy
        exact ⟨rfl, .tuple #[.slice (some ⟨g', 0, none⟩) (f.length + 1) cap', .bool true], by simp [results, Tryd.results16, go_sem], H4.out, by rw [HR.out]; exact ⟨_, rfl, HF.out⟩⟩
      obtain ⟨x1, y1⟩ := i64_neq k1
      by_cases k2 : k = 2
      · subst k2
        simp [posB] at hp
        obtain ⟨⟨p0, p1⟩, p2⟩ := hp
        obtain ⟨i, rfl⟩ : ∃ i : Nat, at' = (i : Int) := ⟨at'.toNat, by omega⟩
        obtain ⟨m, hm⟩ : ∃ m, f.length = i + 1 + m := ⟨f.length - i - 1, by omega⟩
        have HE : Hid (newC f ⟨2, (i : Int), ⟨ck, ⟨dk, dn, s⟩⟩⟩ = f.take i ++ f.drop (i + 1)) := by simp [Hid, newC]
        have hod := HO.out
        unfold OwnC OwnR at hod
        rw [hm] at hod
        have HI := hide (delColumn_any w2.heap.size g m i gc (f.flatMap cEnc) w3 hod (flat_one cEnc_one f))
        rw [← hm] at HI
        rw [show ((i + 1 : Nat) : Int) = (i : Int) + 1 by omega] at HI
        have HM := hide hm
        clear hod hm
        go_wp2_with fail
        with_reducible refine HI.out.mono ?_
        rintro e w4 ⟨rfl, ho4, hg4'⟩
        have H4 : Hid (Below w.heap.size w w4) := (H3.out.grown hg4' H3.out.size (by intro k hk; simp at hk; subst hk; have := HG.out; omega))
        have HF : Hid (OwnC w.heap.size w4 (.slice (some ⟨g, 0, none⟩) (i + m) gc) (newC f ⟨2, (i : Int), ⟨ck, ⟨dk, dn, s⟩⟩⟩)) := by
          have hm := HM.out
          have := OwnR.mono (enc := cEnc) (l := f.take i ++ f.drop (i + 1)) (k := 4) (e := 27) (C := w.heap.size) (B := w2.heap.size) (w := w4) (v := .slice (some ⟨g, 0, none⟩) (i + m) gc) (by
            unfold OwnR
            rw [List.flatMap_append, flat_take cEnc_len f i (by omega), flat_drop cEnc_len f (i + 1) (by omega), show (f.take i ++ f.drop (i + 1)).length = i + m by simp; omega]
            exact ho4) (by omega)
          unfold Hid; rw [HE.out]; exact this
        clear ho4 hg4'
        go_wp2_with fail
        all_goals go_tidy
        exact ⟨rfl, .tuple #[.slice (some ⟨g, 0, none⟩) (i + m) gc, .bool true], by simp [results, Tryd.results16, go_sem], H4.out, by rw [HR.out]; exact ⟨_, rfl, HF.out⟩⟩
      obtain ⟨x2, y2⟩ := i64_neq k2
      have k3 : k = 3 := by
        by_cases k3 : k = 3
        · exact k3
        · simp [posB, k1, k2, k3] at hp
      subst k3
      have hi : 0 ≤ at' ∧ f[at'.toNat]?.any (fun x => decide (x.k = 1)) = true := by
        unfold posB at hp
        rw [if_neg k1, if_neg k2, if_pos rfl] at hp
        simpa using hp
      obtain ⟨i, rfl⟩ : ∃ i : Nat, at' = (i : Int) := ⟨at'.toNat, by omega⟩
      have hil : i < f.length := by
        by_cases hil : i < f.length
        · exact hil
        · have := hi.2
          rw [Int.toNat_natCast, List.getElem?_eq_none (by omega)] at this
          simp at this
      have hval : valB f[i].d = true := by
        have h1 : colB f[i] = true := List.all_eq_true.1 HLEN.out.2.2 _ (List.getElem_mem hil)
        unfold colB at h1
        simp at h1
        exact h1.1.2
      have HE : Hid (newC f ⟨3, (i : Int), ⟨ck, ⟨dk, dn, s⟩⟩⟩ = f.set i ⟨2, widV f[i].d⟩) := by
        unfold Hid newC
        rw [if_neg (by simp), if_neg (by simp), set_take f i _ hil, Int.toNat_natCast, drop_one hil]
        rfl
      have HC : Hid (∀ W, Below w3.heap.size w3 W → ∀ j u, (cEnc f[i])[j]? = some u → W.cell? ⟨g, i * 4 + j, none⟩ = some u) := by
        intro W hW j u hu
        obtain ⟨a', cap', hv, -, -, -, hd⟩ := OwnR.recs cEnc_len HO.out
        obtain ⟨b, off, he, hb, hc⟩ := hd.resolve_left (by rintro rfl; simp at hil)
        injection hv with h1 h2 h3
        subst h1
        injection he with he
        injection he with he1 he2 he3
        subst he1; subst he2
        have := hc i hil j u hu
        rw [Nat.zero_add] at this
        exact (hW.cell (p := ⟨g, _, none⟩) hb).trans this
      have HZ : Hid (∀ W, Below w3.heap.size w3 W → ∀ o, W.frozen? ⟨g, o, none⟩ = false) := by
        intro W hW o
        obtain ⟨cur, hcur, -⟩ := own_at (OwnR.keep HO.out hW)
        exact froz_block hcur o
      have HS : Hid (∀ W, Below w3.heap.size w3 W → W.cell? ⟨w.heap.size, 1, none⟩ = some (.int .i64 (i : Int))) := fun W hW => (hW.cell (p := ⟨w.heap.size, 1, none⟩) (by have := hb3s.out; simp; omega)).trans c1
      obtain ⟨y, hy⟩ : ∃ y, widV f[i].d = y := ⟨_, rfl⟩
      have HW : Hid (∀ W, Below w3.heap.size w3 W → Calls Tryd.prog 58 #[(.agg #[.int .i64 f[i].d.k, .int .i64 f[i].d.n, .string f[i].d.s])] W fun e w' => e = .returned (.agg #[.int .i64 y.k, .int .i64 y.n, .string y.s]) ∧ Below w3.heap.size w3 w') := fun W hW =>
        (iwiden_any f[i].d W hval (ht.keep (H3.out.trans (hW.mono H3.out.size)))).mono fun e w' ⟨h1, h2⟩ => ⟨by rw [h1, hy], hW.trans (h2.mono hW.size)⟩
      have HFIN : Hid (∀ W, Below w3.heap.size w3 W → OwnC w.heap.size (((((W.setCell ⟨g, i * 4, none⟩ (.int .i64 2)).setCell ⟨g, i * 4 + 1, none⟩ (.int .i64 y.k)).setCell ⟨g, i * 4 + 2, none⟩ (.int .i64 y.n)).setCell ⟨g, i * 4 + 3, none⟩ (.string y.s))) (.slice (some ⟨g, 0, none⟩) f.length gc) (f.set i ⟨2, y⟩) ∧
          Below w.heap.size w (((((W.setCell ⟨g, i * 4, none⟩ (.int .i64 2)).setCell ⟨g, i * 4 + 1, none⟩ (.int .i64 y.k)).setCell ⟨g, i * 4 + 2, none⟩ (.int .i64 y.n)).setCell ⟨g, i * 4 + 3, none⟩ (.string y.s)))) := by
        intro W hW
        have h1 := OwnR.mono (C := w.heap.size) (OwnR.set (by decide) cEnc_len (OwnR.keep HO.out hW) rfl i hil ⟨2, y⟩) (by omega)
        have hgw : w.heap.size ≤ g := by have := HG.out; omega
        exact ⟨h1, ((((H3.out.trans (hW.mono H3.out.size)).setCell (by simpa using hgw) _).setCell (by simpa using hgw) _).setCell (by simpa using hgw) _).setCell (by simpa using hgw) _⟩
      rw [hy] at HE
      have hc0 := at4 (HC.out w3 (Below.refl _ _))
      have hz0 := HZ.out w3 (Below.refl _ _)
      have z0 := hz0 (i * 4)
      have z1 := hz0 (i * 4 + 1)
      have z2 := hz0 (i * 4 + 2)
      have z3 := hz0 (i * 4 + 3)
      generalize f[i] = x at *
      obtain ⟨e0, e1, e2, e3⟩ := hc0
      clear hz0 hp hi hval hy HP HV HB HX HF0 HX1 HX2 HX3 HF1 HF2 HLEN
      go_upto_region 5 with fail
      go_region_law (first
        | (go_simp; go_at_call 58; (with_reducible refine (HW.out _ (by first | exact (Below.refl _ _).drew | exact Below.refl _ _)).mono ?_); rintro e w4 ⟨rfl, hb4⟩; (have q1 := HS.out _ hb4); (have qz := HZ.out _ hb4); (obtain ⟨q2, q3, q4, q5⟩ := at4 (HC.out _ hb4)); (have q6 := qz (i * 4)); (have q7 := qz (i * 4 + 1)); (have q8 := qz (i * 4 + 2)); (have q9 := qz (i * 4 + 3)); clear qz; (have H4 := hide hb4); clear hb4)
        | fail)
      all_goals
        clear c0 c1 c2 c3 c4 c5 e0 e1 e2 e3 z0 z1 z2 z3
        clear HC HZ HS HW
        go_wp2_with fail
        all_goals go_tidy
        first
        | exact ⟨rfl, .tuple #[.slice (some ⟨g, 0, none⟩) f.length gc, .bool true], by simp [results, Tryd.results16, go_sem], (HFIN.out _ H4.out).2, by rw [HR.out, HE.out]; exact ⟨_, rfl, (HFIN.out _ H4.out).1⟩⟩
        | exact ⟨rfl, .tuple #[.slice (some ⟨g, 0, none⟩) f.length gc, .bool true], by simp [results, Tryd.results16, go_sem], (HFIN.out _ H4.out.drew).2, by rw [HR.out, HE.out]; exact ⟨_, rfl, (HFIN.out _ H4.out.drew).1⟩⟩
theorem iChange_any (c : RChg) (v : Value) (f : List RCol) (w : World) (h : Recs cEnc 4 w v f) (ht : Tab w) :
    Calls Tryd.prog 16 #[v, (.agg #[.int .i64 c.k, .int .i64 c.a, .int .i64 c.c.k, .int .i64 c.c.d.k, .int .i64 c.c.d.n, .string c.c.d.s])] w (CRet w (chC f c)) := iChange_lit c.k c.a c.c.k c.c.d.k c.c.d.n c.c.d.s v f w h ht
end Go.Proofs.YtdijcdadcbhipaaDoor
