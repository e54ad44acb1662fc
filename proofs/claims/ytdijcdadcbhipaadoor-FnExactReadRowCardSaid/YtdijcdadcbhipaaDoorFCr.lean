/-
  ChangeRow of the program.
-/
import Derived.Test.YtdijcdadcbhipaaDoorFCh
import Derived.Test.YtdijcdadcbhipaaDoorFDelV
import Derived.Test.YtdijcdadcbhipaaDoorFInsV
import Derived.RegionCalls
import Derived.Deep.RegionLaw
import Derived.Deep.DeepCutAuto
set_option linter.all false
namespace Go.Proofs.YtdijcdadcbhipaaDoor
open Go.RowKit
/-- a row after a change that is possible -/
def newR (r : List RVal) (c : RChg) : List RVal :=
  if c.k = 1 then r.take c.a.toNat ++ [c.c.d] ++ r.drop c.a.toNat
  else if c.k = 2 then r.take c.a.toNat ++ r.drop (c.a.toNat + 1)
  else r.take c.a.toNat ++ ((r.drop c.a.toNat).take 1).map widV ++ r.drop (c.a.toNat + 1)
def chR (f : List RCol) (r : List RVal) (c : RChg) : Option (List RVal) := if fitB f r && posB f c then some (newR r c) else none
/-- what a call hands back that returns a row, or none -/
def RRet (w : World) (o : Option (List RVal)) (e : Ending) (w' : World) : Prop :=
  Below w.heap.size w w' ∧ match o with
    | none => e = .returned (.tuple #[.slice none 0 0, .bool false])
    | some g => ∃ v', e = .returned (.tuple #[v', .bool true]) ∧ OwnV w.heap.size w' v' g
theorem fit_of {f : List RCol} {r : List RVal} (h : fitB f r = true) : 1 ≤ r.length ∧ r.length ≤ 5 ∧ r.length = f.length ∧ fmtB f = true ∧ ∀ x ∈ r, valB x = true := by
  unfold fitB at h
  simp at h
  obtain ⟨⟨h1, h2⟩, h3⟩ := h
  have h4 : 1 ≤ f.length ∧ f.length ≤ 5 := by unfold fmtB at h1; simp at h1; exact h1.1
  refine ⟨by omega, by omega, h2, h1, fun x hx => ?_⟩
  obtain ⟨i, hi, rfl⟩ := List.getElem_of_mem hx
  have := h3 r[i] f[i] (by
    have hz : i < (r.zip f).length := by rw [List.length_zip]; omega
    have := List.getElem_mem hz
    rwa [List.getElem_zip] at this)
  unfold fitP at this
  simp at this
  exact this.1
set_option maxHeartbeats 8000000 in
set_option maxRecDepth 100000 in
theorem iRow_lit (k at' ck dk dn : Int) (s : ByteArray) (v u : Value) (f : List RCol) (r : List RVal) (w : World) (h : Recs cEnc 4 w v f) (h' : Recs vEnc 3 w u r) (ht : Tab w) :
    Calls Tryd.prog 32 #[v, u, .agg #[.int .i64 k, .int .i64 at', .int .i64 ck, .int .i64 dk, .int .i64 dn, .string s]] w (RRet w (chR f r ⟨k, at', ⟨ck, ⟨dk, dn, s⟩⟩⟩)) := by
  obtain ⟨R, hR⟩ : ∃ R, R = chR f r ⟨k, at', ⟨ck, ⟨dk, dn, s⟩⟩⟩ := ⟨_, rfl⟩
  rw [← hR]
  have HB := hide (below_box w (.cells #[.int .i64 k, .int .i64 at', .int .i64 ck, .int .i64 dk, .int .i64 dn, .string s] 29))
  have HX := hide (blk_alloc w (.cells #[.int .i64 k, .int .i64 at', .int .i64 ck, .int .i64 dk, .int .i64 dn, .string s] 29))
  have HF0 := hide (h.keep HB.out)
  have HR0 := hide (h'.keep HB.out)
  have HV := hide (iRowFits_any v u f r _ HF0.out HR0.out)
  have HP := hide (fun w h => possible_lit k at' ck dk dn s v f w h)
  obtain ⟨a, cap, rfl, hl, hcap⟩ := h.shape
  obtain ⟨a2, cap2, rfl, hl2, hcap2⟩ := h'.shape
  cases hv : fitB f r with
  | false =>
    have HR : Hid (R = none) := by unfold Hid; rw [hR]; simp [chR, hv]
    rw [hv] at HV
    clear hR hv h h' HP
    go_enter Tryd.func32, Tryd.ntmps32
    go_wp2_with fail
    with_reducible refine HV.out.mono ?_
    rintro e w1 ⟨rfl, hb1⟩
    have H1 := hide (HB.out.trans (hb1.mono HB.out.size))
    clear hb1
    go_wp2_with fail
    all_goals go_tidy
    exact ⟨rfl, .tuple #[.slice none 0 0, .bool false], by simp [results, Tryd.results32, go_sem], H1.out, by rw [HR.out]⟩
  | true =>
    rw [hv] at HV
    have HLEN := hide (fit_of hv)
    have hlen := HLEN.out.2.2.1
    have HLN := hide hlen
    clear hlen
    cases hp : posB f ⟨k, at', ⟨ck, ⟨dk, dn, s⟩⟩⟩ with
    | false =>
      have HR : Hid (R = none) := by unfold Hid; rw [hR]; simp [chR, hp]
      rw [hp] at HP
      clear hR hv hp h h'
      go_enter Tryd.func32, Tryd.ntmps32
      go_wp2_with fail
      with_reducible refine HV.out.mono ?_
      rintro e w1 ⟨rfl, hb1⟩
      have H1 := hide (HB.out.trans (hb1.mono HB.out.size))
      have HF1 := hide (HF0.out.keep hb1)
      obtain ⟨⟨c0, c1, c2, c3, c4, c5⟩, -⟩ := cells6 (blk_own hb1 HX.out)
      clear hb1
      go_wp2_with fail
      with_reducible refine (HP.out _ HF1.out).mono ?_
      rintro e w2 ⟨rfl, hb2⟩
      have H2 := hide (H1.out.trans (hb2.mono H1.out.size))
      clear hb2
      go_wp2_with fail
      all_goals go_tidy
      exact ⟨rfl, .tuple #[.slice none 0 0, .bool false], by simp [results, Tryd.results32, go_sem], H2.out, by rw [HR.out]⟩
    | true =>
      have HR : Hid (R = some (newR r ⟨k, at', ⟨ck, ⟨dk, dn, s⟩⟩⟩)) := by unfold Hid; rw [hR]; simp [chR, hp, hv]
      rw [hp] at HP
      clear hR hv h h'
      go_enter Tryd.func32, Tryd.ntmps32
      go_wp2_with fail
      with_reducible refine HV.out.mono ?_
      rintro e w1 ⟨rfl, hb1⟩
      have H1 := hide (HB.out.trans (hb1.mono HB.out.size))
      have HF1 := hide (HF0.out.keep hb1)
      have HR1 := hide (HR0.out.keep hb1)
      have HX1 := hide (blk_own hb1 HX.out)
      obtain ⟨⟨c0, c1, c2, c3, c4, c5⟩, -⟩ := cells6 HX1.out
      clear hb1
      go_wp2_with fail
      with_reducible refine (HP.out _ HF1.out).mono ?_
      rintro e w2 ⟨rfl, hb2⟩
      have H2 := hide (H1.out.trans (hb2.mono H1.out.size))
      have HR2 := hide (HR1.out.keep hb2)
      have HX2 := hide (blk_own hb2 HX1.out)
      clear hb2 c0 c1 c2 c3 c4 c5
      go_wp2_with fail
      with_reducible refine (cloneV_any _ r _ HR2.out (by have := HLEN.out.2.1; omega)).mono ?_
      rintro e w3 ⟨v6, rfl, ho, hb3⟩
      have H3 := hide (H2.out.trans (hb3.mono H2.out.size))
      have HX3 := hide (blk_own hb3 HX2.out)
      obtain ⟨g, gc, rfl, hg1, hg2, hg3, hg4⟩ := OwnR.at ho HLEN.out.1
      have HG := hide hg1
      have hb3s := hide hb3.size
      have HO := hide ho
      have hwg : w.heap.size < w2.heap.size := lt_block HX2.out
      obtain ⟨⟨c0, c1, c2, c3, c4, c5⟩, -⟩ := cells6 HX3.out
      clear hb3 ho hg1
      by_cases k1 : k = 1
      · subst k1
        simp [posB] at hp
        obtain ⟨⟨⟨p0, p1⟩, p2⟩, -⟩ := hp
        obtain ⟨i, rfl⟩ : ∃ i : Nat, at' = (i : Int) := ⟨at'.toNat, by omega⟩
        have hir : i ≤ r.length := by have := HLN.out; omega
        have hr5 : r.length ≤ 5 := HLEN.out.2.1
        have HE : Hid (newR r ⟨1, (i : Int), ⟨ck, ⟨dk, dn, s⟩⟩⟩ = r.take i ++ [⟨dk, dn, s⟩] ++ r.drop i) := by simp [Hid, newR]
        have HI := hide (insValue_any w2.heap.size w3.heap.size 1 r.length i (.slice (some ⟨g, 0, none⟩) r.length gc) (r.flatMap vEnc) [.int .i64 dk, .int .i64 dn, .string s] (w3.alloc (.cells #[.int .i64 dk, .int .i64 dn, .string s] 25)) (HO.out.alloc _) (by have := H2.out.size; have := hb3s.out; simp; omega) (by omega) (by omega) rfl (flat_one vEnc_one r) (vEnc_one ⟨dk, dn, s⟩) (blk_alloc _ _) (by simp [Value.ownBlock]; omega))

        go_wp2_with fail
        with_reducible refine HI.out.mono ?_
        rintro e w4 ⟨g', cap', rfl, ho4, hg4', hat⟩
        have H4 : Hid (Below w.heap.size w w4) := ((H3.out.alloc H3.out.size _).grown hg4' (by have := H3.out.size; simp; omega) (by intro k hk; simp [Value.ownBlock] at hk; subst hk; have := HG.out; omega))
        have HF : Hid (OwnV w.heap.size w4 (.slice (some ⟨g', 0, none⟩) (r.length + 1) cap') (newR r ⟨1, (i : Int), ⟨ck, ⟨dk, dn, s⟩⟩⟩)) := by
          have := OwnR.mono (enc := vEnc) (l := r.take i ++ [⟨dk, dn, s⟩] ++ r.drop i) (k := 3) (e := 25) (C := w.heap.size) (B := w2.heap.size) (w := w4) (v := .slice (some ⟨g', 0, none⟩) (r.length + 1) cap') (by
            unfold OwnR
            rw [List.flatMap_append, List.flatMap_append, flat_take vEnc_len r i (by omega), flat_drop vEnc_len r i (by omega), show (r.take i ++ ([⟨dk, dn, s⟩] : List RVal) ++ r.drop i).length = r.length + 1 by simp; omega]
            exact ho4) (by omega)
          unfold Hid; rw [HE.out]; exact this
        clear ho4 hg4' hat
        go_wp2_with fail
        all_goals go_tidy
        exact ⟨rfl, .tuple #[.slice (some ⟨g', 0, none⟩) (r.length + 1) cap', .bool true], by simp [results, Tryd.results32, go_sem], H4.out, by rw [HR.out]; exact ⟨_, rfl, HF.out⟩⟩
      obtain ⟨x1, y1⟩ := i64_neq k1
      by_cases k2 : k = 2
      · subst k2
        simp [posB] at hp
        obtain ⟨⟨p0, p1⟩, p2⟩ := hp
        obtain ⟨i, rfl⟩ : ∃ i : Nat, at' = (i : Int) := ⟨at'.toNat, by omega⟩
        obtain ⟨m, hm⟩ : ∃ m, r.length = i + 1 + m := ⟨r.length - i - 1, by have := HLN.out; omega⟩
        have HE : Hid (newR r ⟨2, (i : Int), ⟨ck, ⟨dk, dn, s⟩⟩⟩ = r.take i ++ r.drop (i + 1)) := by simp [Hid, newR]
        have hod := HO.out
        unfold OwnV OwnR at hod
        rw [hm] at hod
        have HI := hide (delValue_any w2.heap.size g m i gc (r.flatMap vEnc) w3 hod (flat_one vEnc_one r))
        rw [← hm] at HI
        rw [show ((i + 1 : Nat) : Int) = (i : Int) + 1 by omega] at HI
        have HM := hide hm
        clear hod hm
        go_wp2_with fail
        with_reducible refine HI.out.mono ?_
        rintro e w4 ⟨rfl, ho4, hg4'⟩
        have H4 : Hid (Below w.heap.size w w4) := (H3.out.grown hg4' H3.out.size (by intro k hk; simp at hk; subst hk; have := HG.out; omega))
        have HF : Hid (OwnV w.heap.size w4 (.slice (some ⟨g, 0, none⟩) (i + m) gc) (newR r ⟨2, (i : Int), ⟨ck, ⟨dk, dn, s⟩⟩⟩)) := by
          have hm := HM.out
          have := OwnR.mono (enc := vEnc) (l := r.take i ++ r.drop (i + 1)) (k := 3) (e := 25) (C := w.heap.size) (B := w2.heap.size) (w := w4) (v := .slice (some ⟨g, 0, none⟩) (i + m) gc) (by
            unfold OwnR
            rw [List.flatMap_append, flat_take vEnc_len r i (by omega), flat_drop vEnc_len r (i + 1) (by omega), show (r.take i ++ r.drop (i + 1)).length = i + m by simp; omega]
            exact ho4) (by omega)
          unfold Hid; rw [HE.out]; exact this
        clear ho4 hg4'
        go_wp2_with fail
        all_goals go_tidy
        exact ⟨rfl, .tuple #[.slice (some ⟨g, 0, none⟩) (i + m) gc, .bool true], by simp [results, Tryd.results32, go_sem], H4.out, by rw [HR.out]; exact ⟨_, rfl, HF.out⟩⟩
      obtain ⟨x2, y2⟩ := i64_neq k2
      have k3 : k = 3 := by
        by_cases k3 : k = 3
        · exact k3
        · simp [posB, k1, k2, k3] at hp
      subst k3
      have hi : 0 ≤ at' ∧ f[at'.toNat]?.any (fun x => decide (x.k = 1)) = true := by
        unfold posB at hp
        rw [if_neg k1, if_neg k2, if_pos rfl] at hp
        simpa using hp
      obtain ⟨i, rfl⟩ : ∃ i : Nat, at' = (i : Int) := ⟨at'.toNat, by omega⟩
      have hif : i < f.length := by
        by_cases hil : i < f.length
        · exact hil
        · have := hi.2
          rw [Int.toNat_natCast, List.getElem?_eq_none (by omega)] at this
          simp at this
      have hil : i < r.length := by have := HLN.out; omega
      have hval : valB r[i] = true := HLEN.out.2.2.2.2 _ (List.getElem_mem hil)
      have HE : Hid (newR r ⟨3, (i : Int), ⟨ck, ⟨dk, dn, s⟩⟩⟩ = r.set i (widV r[i])) := by
        unfold Hid newR
        rw [if_neg (by simp), if_neg (by simp), set_take r i _ hil, Int.toNat_natCast, drop_one hil]
        rfl
      have HC : Hid (∀ W, Below w3.heap.size w3 W → ∀ j u, (vEnc r[i])[j]? = some u → W.cell? ⟨g, i * 3 + j, none⟩ = some u) := by
        intro W hW j u hu
        obtain ⟨a', cap', hv, -, -, -, hd⟩ := OwnR.recs vEnc_len HO.out
        obtain ⟨b, off, he, hb, hc⟩ := hd.resolve_left (by rintro rfl; simp at hil)
        injection hv with h1 h2 h3
        subst h1
        injection he with he
        injection he with he1 he2 he3
        subst he1; subst he2
        have := hc i hil j u hu
        rw [Nat.zero_add] at this
        exact (hW.cell (p := ⟨g, _, none⟩) hb).trans this
      have HZ : Hid (∀ W, Below w3.heap.size w3 W → ∀ o, W.frozen? ⟨g, o, none⟩ = false) := by
        intro W hW o
        obtain ⟨cur, hcur, -⟩ := own_at (OwnR.keep HO.out hW)
        exact froz_block hcur o
      have HS : Hid (∀ W, Below w3.heap.size w3 W → W.cell? ⟨w.heap.size, 1, none⟩ = some (.int .i64 (i : Int))) := fun W hW => (hW.cell (p := ⟨w.heap.size, 1, none⟩) (by have := hb3s.out; simp; omega)).trans c1
      obtain ⟨y, hy⟩ : ∃ y, widV r[i] = y := ⟨_, rfl⟩
      have HW : Hid (∀ W, Below w3.heap.size w3 W → Calls Tryd.prog 58 #[(.agg #[.int .i64 r[i].k, .int .i64 r[i].n, .string r[i].s])] W fun e w' => e = .returned (.agg #[.int .i64 y.k, .int .i64 y.n, .string y.s]) ∧ Below w3.heap.size w3 w') := fun W hW =>
        (iwiden_any r[i] W hval (ht.keep (H3.out.trans (hW.mono H3.out.size)))).mono fun e w' ⟨h1, h2⟩ => ⟨by rw [h1, hy], hW.trans (h2.mono hW.size)⟩
      have HFIN : Hid (∀ W, Below w3.heap.size w3 W → OwnV w.heap.size ((((W.setCell ⟨g, i * 3, none⟩ (.int .i64 y.k)).setCell ⟨g, i * 3 + 1, none⟩ (.int .i64 y.n)).setCell ⟨g, i * 3 + 2, none⟩ (.string y.s))) (.slice (some ⟨g, 0, none⟩) r.length gc) (r.set i y) ∧
          Below w.heap.size w ((((W.setCell ⟨g, i * 3, none⟩ (.int .i64 y.k)).setCell ⟨g, i * 3 + 1, none⟩ (.int .i64 y.n)).setCell ⟨g, i * 3 + 2, none⟩ (.string y.s)))) := by
        intro W hW
        have h1 := OwnR.mono (C := w.heap.size) (OwnR.set (by decide) vEnc_len (OwnR.keep HO.out hW) rfl i hil y) (by omega)
        have hgw : w.heap.size ≤ g := by have := HG.out; omega
        exact ⟨h1, (((H3.out.trans (hW.mono H3.out.size)).setCell (by simpa using hgw) _).setCell (by simpa using hgw) _).setCell (by simpa using hgw) _⟩
      rw [hy] at HE
      have hc0 := at3 (HC.out w3 (Below.refl _ _))
      have hz0 := HZ.out w3 (Below.refl _ _)
      have z0 := hz0 (i * 3)
      have z1 := hz0 (i * 3 + 1)
      have z2 := hz0 (i * 3 + 2)
      generalize r[i] = x at *
      obtain ⟨e0, e1, e2⟩ := hc0
      clear hz0 hp hi hval hy hif HP HV HB HX HF0 HX1 HX2 HX3 HF1 HLEN
      go_upto_region 5 with fail
      go_region_law (first
        | (go_simp; go_at_call 58; (with_reducible refine (HW.out _ (by first | exact (Below.refl _ _).drew | exact Below.refl _ _)).mono ?_); rintro e w4 ⟨rfl, hb4⟩; (have q1 := HS.out _ hb4); (have qz := HZ.out _ hb4); (obtain ⟨q2, q3, q4⟩ := at3 (HC.out _ hb4)); (have q6 := qz (i * 3)); (have q7 := qz (i * 3 + 1)); (have q8 := qz (i * 3 + 2)); clear qz; (have H4 := hide hb4); clear hb4)
        | fail)
      all_goals
        clear c0 c1 c2 c3 c4 c5 e0 e1 e2 z0 z1 z2
        clear HC HZ HS HW
        go_wp2_with fail
        all_goals go_tidy
        first
        | exact ⟨rfl, .tuple #[.slice (some ⟨g, 0, none⟩) r.length gc, .bool true], by simp [results, Tryd.results32, go_sem], (HFIN.out _ H4.out).2, by rw [HR.out, HE.out]; exact ⟨_, rfl, (HFIN.out _ H4.out).1⟩⟩
        | exact ⟨rfl, .tuple #[.slice (some ⟨g, 0, none⟩) r.length gc, .bool true], by simp [results, Tryd.results32, go_sem], (HFIN.out _ H4.out.drew).2, by rw [HR.out, HE.out]; exact ⟨_, rfl, (HFIN.out _ H4.out.drew).1⟩⟩
theorem iRow_any (c : RChg) (v u : Value) (f : List RCol) (r : List RVal) (w : World) (h : Recs cEnc 4 w v f) (h' : Recs vEnc 3 w u r) (ht : Tab w) :
    Calls Tryd.prog 32 #[v, u, (.agg #[.int .i64 c.k, .int .i64 c.a, .int .i64 c.c.k, .int .i64 c.c.d.k, .int .i64 c.c.d.n, .string c.c.d.s])] w (RRet w (chR f r c)) := iRow_lit c.k c.a c.c.k c.c.d.k c.c.d.n c.c.d.s v u f r w h h' ht
end Go.Proofs.YtdijcdadcbhipaaDoor
