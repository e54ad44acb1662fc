/-
  change of the specification: ChangeWiden.
-/
import Derived.Test.YtdijcdadcbhipaaDoorFSw
import Derived.Test.YtdijcdadcbhipaaDoorFSc0
import Derived.RegionCalls
import Derived.Deep.RegionLaw
import Derived.Deep.DeepCutAuto
set_option linter.all false
namespace Go.Proofs.YtdijcdadcbhipaaDoor
open Go.RowKit
set_option maxHeartbeats 8000000 in
set_option maxRecDepth 100000 in
theorem schange_widen (at' ck dk dn : Int) (s : ByteArray) (v : Value) (f : List RCol) (w : World) (h : Recs cEnc 4 w v f) (hf1 : 1 ≤ f.length) (hf5 : f.length ≤ 1000) (hg : ∀ x ∈ f, goodC x) :
    Calls Tryd.prog 60 #[v, .agg #[.int .i64 3, .int .i64 at', .int .i64 ck, .int .i64 dk, .int .i64 dn, .string s]] w (CRet w (if posB f ⟨3, at', ⟨ck, ⟨dk, dn, s⟩⟩⟩ then some (newC f ⟨3, at', ⟨ck, ⟨dk, dn, s⟩⟩⟩) else none)) := by
  obtain ⟨R, hR⟩ : ∃ R, R = (if posB f ⟨3, at', ⟨ck, ⟨dk, dn, s⟩⟩⟩ then some (newC f ⟨3, at', ⟨ck, ⟨dk, dn, s⟩⟩⟩) else none) := ⟨_, rfl⟩
  rw [← hR]
  have HB := hide (below_box w (.cells #[.int .i64 3, .int .i64 at', .int .i64 ck, .int .i64 dk, .int .i64 dn, .string s] 29))
  have HX := hide (blk_alloc w (.cells #[.int .i64 3, .int .i64 at', .int .i64 ck, .int .i64 dk, .int .i64 dn, .string s] 29))
  have HF0 := hide (h.keep HB.out)
  obtain ⟨b, off, cap, rfl, hl, hcap⟩ := h.at hf1
  have HW0 := hide h
  clear h
  by_cases q : 0 ≤ at' ∧ at' ≤ (f.length : Int) - 1
  · have HI := hide (fun w => inRange_yes at' 0 ((f.length : Int) - 1) w q.1 q.2)
    obtain ⟨i, rfl⟩ : ∃ i : Nat, at' = (i : Int) := ⟨at'.toNat, by omega⟩
    have hil : i < f.length := by omega
    clear q
    have HCF : Hid (∀ W, Below w.heap.size w W → ∀ j u, (cEnc f[i])[j]? = some u → W.cell? ⟨b, off + i * 4 + j, none⟩ = some u) := by
      intro W hW j u hu
      obtain ⟨a', cap', hv, -, -, -, hd⟩ := HW0.out
      obtain ⟨b', off', he, hb, hc⟩ := hd.resolve_left (by rintro rfl; simp at hil)
      injection hv with h1 h2 h3
      subst h1
      injection he with he
      injection he with he1 he2 he3
      subst he1; subst he2
      exact (hW.cell (p := ⟨b, _, none⟩) hb).trans (hc i hil j u hu)
    by_cases k1 : f[i].k = 1
    · have HE : Hid (newC f ⟨3, (i : Int), ⟨ck, ⟨dk, dn, s⟩⟩⟩ = f.set i ⟨2, widV f[i].d⟩) := by
        unfold Hid newC
        rw [if_neg (by simp), if_neg (by simp), set_take f i _ hil, Int.toNat_natCast, drop_one hil]
        rfl
      have HR : Hid (R = some (newC f ⟨3, (i : Int), ⟨ck, ⟨dk, dn, s⟩⟩⟩)) := by unfold Hid; rw [hR, if_pos (by simp [posB, hil, k1])]
      have hnum := (hg _ (List.getElem_mem hil)).2
      have e := at4 (HCF.out _ HB.out)
      rw [k1] at e
      obtain ⟨e0, -⟩ := e
      clear hR
      go_enter Tryd.func60, Tryd.ntmps60
      go_wp2_with fail
      with_reducible refine (HI.out _).mono ?_
      rintro e _ ⟨rfl, rfl⟩
      go_wp2_with fail
      with_reducible refine (scopyC_any _ f _ HF0.out (by omega)).mono ?_
      rintro e w3 ⟨v6, rfl, ho, hb3⟩
      have H3 := hide (HB.out.trans (hb3.mono HB.out.size))
      have HX3 := hide (blk_own hb3 HX.out)
      obtain ⟨g, gc, rfl, hg1, hg2, hg3, hg4⟩ := ho.at hf1
      have hgw : w.heap.size < g := by simp at hg1; omega
      have HO : Hid (OwnC w.heap.size w3 (.slice (some ⟨g, 0, none⟩) f.length gc) f) := OwnR.mono ho (by simp)
      have hws : w.heap.size < w3.heap.size := lt_block HX3.out
      obtain ⟨⟨c0, c1, c2, c3, c4, c5⟩, -⟩ := cells6 HX3.out
      clear hb3 ho hg1 e0
      have HZ : Hid (∀ W, Below w3.heap.size w3 W → ∀ o, W.frozen? ⟨g, o, none⟩ = false) := by
        intro W hW o
        obtain ⟨cur, hcur, -⟩ := own_at (OwnR.keep HO.out hW)
        exact froz_block hcur o
      have HC : Hid (∀ W, Below w3.heap.size w3 W → ∀ j u, (cEnc f[i])[j]? = some u → W.cell? ⟨g, i * 4 + j, none⟩ = some u) := by
        intro W hW j u hu
        obtain ⟨a', cap', hv, -, -, -, hd⟩ := OwnR.recs cEnc_len HO.out
        obtain ⟨b', off', he, hb, hc⟩ := hd.resolve_left (by rintro rfl; simp at hil)
        injection hv with h1 h2 h3
        subst h1
        injection he with he
        injection he with he1 he2 he3
        subst he1; subst he2
        have := hc i hil j u hu
        rw [Nat.zero_add] at this
        exact (hW.cell (p := ⟨g, _, none⟩) hb).trans this
      have HS : Hid (∀ W, Below w3.heap.size w3 W → W.cell? ⟨w.heap.size, 1, none⟩ = some (.int .i64 (i : Int))) := fun W hW => (hW.cell (p := ⟨w.heap.size, 1, none⟩) hws).trans c1
      have HCW : Hid (∀ W, Below w3.heap.size w3 W → ∀ j u, (cEnc f[i])[j]? = some u → W.cell? ⟨b, off + i * 4 + j, none⟩ = some u) := fun W hW => HCF.out W (H3.out.trans (hW.mono H3.out.size))
      obtain ⟨y, hy⟩ : ∃ y, widV f[i].d = y := ⟨_, rfl⟩
      have HW : Hid (∀ W, Below w3.heap.size w3 W → Calls Tryd.prog 94 #[(.agg #[.int .i64 f[i].d.k, .int .i64 f[i].d.n, .string f[i].d.s])] W fun e w' => e = .returned (.agg #[.int .i64 y.k, .int .i64 y.n, .string y.s]) ∧ Below w3.heap.size w3 w') := fun W hW =>
        (swiden_num f[i].d W hnum).mono fun e w' ⟨h1, h2⟩ => ⟨by rw [h1, hy], hW.trans (h2.mono hW.size)⟩
      have HFIN : Hid (∀ W, Below w3.heap.size w3 W → OwnC w.heap.size (((((W.setCell ⟨g, i * 4, none⟩ (.int .i64 2)).setCell ⟨g, i * 4 + 1, none⟩ (.int .i64 y.k)).setCell ⟨g, i * 4 + 2, none⟩ (.int .i64 y.n)).setCell ⟨g, i * 4 + 3, none⟩ (.string y.s))) (.slice (some ⟨g, 0, none⟩) f.length gc) (f.set i ⟨2, y⟩) ∧ Below w.heap.size w (((((W.setCell ⟨g, i * 4, none⟩ (.int .i64 2)).setCell ⟨g, i * 4 + 1, none⟩ (.int .i64 y.k)).setCell ⟨g, i * 4 + 2, none⟩ (.int .i64 y.n)).setCell ⟨g, i * 4 + 3, none⟩ (.string y.s)))) := by
        intro W hW
        have h1 := OwnR.set (by decide) cEnc_len (OwnR.keep HO.out hW) rfl i hil ⟨2, y⟩
        have hgw : w.heap.size ≤ g := by omega
        exact ⟨h1, ((((H3.out.trans (hW.mono H3.out.size)).setCell (by simpa using hgw) _).setCell (by simpa using hgw) _).setCell (by simpa using hgw) _).setCell (by simpa using hgw) _⟩
      rw [hy] at HE
      have hc0 := at4 (HC.out w3 (Below.refl _ _))
      have hd0 := at4 (HCW.out w3 (Below.refl _ _))
      have hz0 := HZ.out w3 (Below.refl _ _)
      have z0 := hz0 (i * 4)
      have z1 := hz0 (i * 4 + 1)
      have z2 := hz0 (i * 4 + 2)
      have z3 := hz0 (i * 4 + 3)
      clear hnum hy k1 HB HX HF0 HX3 HW0 HCF HI
      generalize f[i] = x at *
      obtain ⟨e0, e1, e2, e3⟩ := hc0
      obtain ⟨d0, d1, d2, d3⟩ := hd0
      clear hz0
      go_upto_region 7 with fail
      go_cut [6] (fun s6 wx => s6 = .slice (some ⟨g, 0, none⟩) f.length gc ∧ OwnC w.heap.size wx (.slice (some ⟨g, 0, none⟩) f.length gc) (f.set i ⟨2, y⟩) ∧ Below w.heap.size w wx)
      case first =>
        go_region_law (first
          | (go_simp; go_at_call 94; (with_reducible refine (HW.out _ (by first | exact (Below.refl _ _).drew | exact Below.refl _ _)).mono ?_); rintro e w4 ⟨rfl, hb4⟩; (have q1 := HS.out _ hb4); (have qz := HZ.out _ hb4); (obtain ⟨q2, q3, q4, q5⟩ := at4 (HC.out _ hb4)); (obtain ⟨n2, n3, n4, n5⟩ := at4 (HCW.out _ hb4)); (have q6 := qz (i * 4)); (have q7 := qz (i * 4 + 1)); (have q8 := qz (i * 4 + 2)); (have q9 := qz (i * 4 + 3)); clear qz; (have H4 := hide hb4); clear hb4)
          | fail)
        all_goals
          go_wp2_with fail
          go_meet
          first
          | exact ⟨rfl, HFIN.out _ H4.out⟩
          | exact ⟨rfl, HFIN.out _ H4.out.drew⟩
      case rest =>
        obtain ⟨rfl, ho4, hb4⟩ := hcut
        have HF := hide ho4
        have H4 := hide hb4
        clear ho4 hb4 c0 c1 c2 c3 c4 c5 e0 e1 e2 e3 z0 z1 z2 z3 d0 d1 d2 d3
        go_wp2_with fail
        all_goals go_tidy
        exact ⟨rfl, .tuple #[.slice (some ⟨g, 0, none⟩) f.length gc, .bool true], by simp [results, Tryd.results60, go_sem], H4.out, by rw [HR.out, HE.out]; exact ⟨_, rfl, HF.out⟩⟩
    · have HR : Hid (R = none) := by unfold Hid; rw [hR]; simp [posB, hil, k1]
      obtain ⟨e0, -⟩ := at4 (HCF.out _ HB.out)
      obtain ⟨x1, y1⟩ := i64_neq k1
      clear hR
      go_enter Tryd.func60, Tryd.ntmps60
      go_wp2_with fail
      with_reducible refine (HI.out _).mono ?_
      rintro e _ ⟨rfl, rfl⟩
      go_wp2_with fail
      all_goals go_tidy
      exact ⟨rfl, .tuple #[.slice none 0 0, .bool false], by simp [results, Tryd.results60, go_sem], HB.out, by rw [HR.out]⟩
  · have HI := hide (fun w => inRange_no at' 0 ((f.length : Int) - 1) w q)
    have HR : Hid (R = none) := by
      unfold Hid; rw [hR, if_neg]
      intro hp
      unfold posB at hp
      rw [if_neg (by simp), if_neg (by simp), if_pos rfl] at hp
      simp at hp
      obtain ⟨h0, h1⟩ := hp
      by_cases h2 : at'.toNat < f.length
      · exact q ⟨h0, by omega⟩
      · rw [List.getElem?_eq_none (by omega)] at h1; simp at h1
    clear hR q
    go_enter Tryd.func60, Tryd.ntmps60
    go_wp2_with fail
    with_reducible refine (HI.out _).mono ?_
    rintro e _ ⟨rfl, rfl⟩
    go_wp2_with fail
    all_goals go_tidy
    exact ⟨rfl, .tuple #[.slice none 0 0, .bool false], by simp [results, Tryd.results60, go_sem], HB.out, by rw [HR.out]⟩
end Go.Proofs.YtdijcdadcbhipaaDoor
