/-
  randomTree of the generator.
-/
import Derived.Test.YtmlphdniiiijpaaTreeG
import Derived.Deep.RegionLaw
import Derived.Deep.DeepCutAuto
set_option linter.all false
namespace Go.Proofs.Ytmlphdniiiijpaa
open Go.RowKit
theorem row_box {w : World} {v : Value} {t : List (List Itm)} {k : Nat} {ty : TypeId} (hb : w.heap[k]? = some (.cells #[.slice none 0 0] ty (0, 0))) (h : Lvs w v t) (hne : ∀ f ∈ t, 1 ≤ f.length) : ∀ a n c, v = .slice (some a) n c → t ≠ [] → a.block ≠ k := by
  intro a n c e ht q
  obtain ⟨a', cap, rfl, -, -, hd⟩ := h
  obtain ⟨b, off, rfl, -, hc⟩ := hd.resolve_left ht
  injection e with e _ _
  injection e with e
  subst e
  simp only at q
  subst q
  have hpos := List.length_pos_iff.2 ht
  obtain ⟨lv, h0, h1, -⟩ := hc 0 hpos
  have hf := hne _ (List.getElem_mem hpos)
  obtain ⟨la, lc, rfl⟩ := itms_shape h1
  rw [cell_block hb, Nat.add_zero] at h0
  match off, h0 with
  | 0, h0 => simp at h0; omega
  | k + 1, h0 => simp at h0
def RTPost (w : World) (g : Nat) (p : Int) (e : Ending) (w' : World) : Prop := ∃ v t q, e = .returned (.agg #[v]) ∧ VT t ∧ OwnR w.heap.size w' v t ∧ Rd w' g q ∧ (0 ≤ q ∧ q ≤ p + 100) ∧ w.grownBy w' (some g)
theorem TInv.store {w w2 : World} {g B : Nat} {v u : Value} {t s : List (List Itm)} {p : Int} (h : TInv w w2 g B v t p) (hv : ∃ a n c, v = .slice a n c) (hs : VT s) (hl : OwnR w.heap.size w2 u s) : TInv w (w2.setCell ⟨B, 0, none⟩ u) g B u s p := by
  obtain ⟨a0, n0, c0, rfl⟩ := hv
  have hBg : g < B := Nat.lt_of_lt_of_le h.hg h.hB
  exact ⟨h.rd.setC hBg, grown_setN h.grown h.hB, set_block h.bx 0 u, hl.boxT h.bx, hs, h.hB, h.hg⟩
theorem TInv.setN {w w2 : World} {g B k : Nat} {v u : Value} {t : List (List Itm)} {p : Int} (h : TInv w w2 g B v t p) (hk : w.heap.size ≤ k) (hne : B ≠ k) (hb : w2.heap[k]? = some (.cells #[.slice none 0 0] 25 (0, 0))) : TInv w (w2.setCell ⟨k, 0, none⟩ u) g B v t p :=
  ⟨h.rd.setC (Nat.lt_of_lt_of_le h.hg hk), grown_setN h.grown hk, (Below.heap_setCell w2 ⟨k, 0, none⟩ u B hne).trans h.bx, h.lv.boxT hb, h.vt, h.hB, h.hg⟩
set_option maxHeartbeats 32000000 in
set_option maxRecDepth 100000 in
theorem randomTree_any (g : Nat) (p : Int) (w : World) (h : Rd w g p) (hp : p < 900000000) (hp0 : 0 ≤ p) :
    Calls Try.prog 48 #[.pointer (some ⟨g, 0, none⟩)] w (RTPost w g p) := by
  have hR := hide h
  have hg : g < w.heap.size := h.lt
  clear h
  have HZ0 := hide (blk_keep (blk_alloc w (.cells #[.slice none 0 0] 25)) (.cells #[.slice none 0 0] 25))
  have HI0 : Hid (TInv w ((w.alloc (.cells #[.slice none 0 0] 25)).alloc (.cells #[.slice none 0 0] 25)) g (w.heap.size + 1) (.slice none 0 0) [] p) :=
    ⟨(hR.out.alloc _).alloc _, grown_below (below_box2 w _ _) _, blk_at (by simp) _, ownR_none _ _, VT.nil, by omega, hg⟩
  go_enter Try.func48, Try.ntmps48
  go_wp2_with fail
  refine (one_lit g p _ 7 _ [6, 10, 4, 16, 1, 0, 30] _ (HI0.out.rd.alloc _) (by omega) (blk_at (by simp) _) (by omega) (by decide) (by decide)).mono ?_
  rintro e w2 ⟨n, rfl, hm, hR2, hg2⟩
  have I2 := hide ((HI0.out.keep (below_box _ _)).by hg2 hR2)
  have HZ2 := hide ((hg2.block w.heap.size (lt_block (blk_keep HZ0.out _)) (fun e => by injection e with e; omega)).trans (blk_keep HZ0.out _))
  obtain ⟨m, rfl⟩ : ∃ m : Nat, n = (m : Int) := ⟨n.toNat, by simp at hm; omega⟩
  have hm30 : m ≤ 30 := by simp at hm; omega
  clear hm hR2 hg2 HI0 HZ0
  go_wp2_with fail
  go_loopg [4] m (fun gk s4 wr => gk ≤ 30 ∧ s4 = .int .i64 (gk : Nat) ∧ wr.heap[w.heap.size]? = some (.cells #[.slice none 0 0] 25 (0, 0)) ∧ ∃ v t q, TInv w wr g (w.heap.size + 1) v t q ∧ 0 ≤ q ∧ q + 2 * (gk : Nat) ≤ p + 61)
  case atStart => exact ⟨hm30, rfl, HZ2.out, _, _, _, I2.out, by omega, by omega⟩
  case round =>
    clear I2 HZ2 hR hm30
    obtain ⟨hgk, rfl, hz, v, t, q, hI, hq0, hq1⟩ := hrel
    have HI := hide hI
    have HZ := hide hz
    have hn30 := hI.vt.n
    obtain ⟨va, vc, rfl⟩ := hI.lv.nil_eq
    have hbl := lt_block hI.bx
    have hbz := lt_block hz
    have c0 := cell_block hI.bx 0
    have f0 := froz_block hI.bx 0
    clear hI hz
    by_cases h0 : gk = 0
    · subst h0
      go_wp2_with fail
      refine (pick_any g q 5 wr HI.out.rd (by omega)).mono ?_
      rintro e w3 ⟨m, rfl, hm, hR3, hg3⟩
      have I3 := hide (HI.out.by hg3 hR3)
      have HZ3 := hide ((hg3.block w.heap.size hbz (fun e => by injection e with e; omega)).trans HZ.out)
      obtain ⟨m, rfl⟩ : ∃ m' : Nat, m = (m' : Int) := ⟨m.toNat, by have := hm.1; omega⟩
      have hm4 : m ≤ 4 := by have := hm.2 (by omega); omega
      clear hm hR3 hg3 HI HZ c0 f0 hbl hbz
      go_wp2_with fail
      go_loopg [7] m (fun gj s7 wr => gj ≤ 4 ∧ s7 = .int .i64 (gj : Nat) ∧ wr.heap[w.heap.size]? = some (.cells #[.slice none 0 0] 25 (0, 0)) ∧ ∃ v t q, TInv w wr g (w.heap.size + 1) v t q ∧ 0 ≤ q ∧ q + (gj : Nat) ≤ p + 66)
      case atStart => exact ⟨hm4, rfl, HZ3.out, _, _, _, I3.out, by omega, by omega⟩
      case round =>
        clear I3 HZ3 hm4
        obtain ⟨hgj, rfl, hz, v, t, q, hI, hq0, hq1⟩ := hrel
        have HI := hide hI
        have HZ := hide hz
        have hn30 := hI.vt.n
        obtain ⟨va, vc, rfl⟩ := hI.lv.nil_eq
        have hbl := lt_block hI.bx
        have hbz := lt_block hz
        have c0 := cell_block hI.bx 0
        have f0 := froz_block hI.bx 0
        clear hI hz
        have hwr := HI.out.size
        have HFL := hide (sflat_any (.slice va t.length vc) t wr HI.out.lv.lvs (by omega))
        by_cases h0 : gk = 0
        · subst h0
          have HRZ := hide (HI.out.lv.boxT (u := .slice va t.length vc) HZ.out)
          have z0 := cell_block HZ.out 0
          have zf := froz_block HZ.out 0
          have S3 := hide (set_block HZ.out 0 (.slice va t.length vc))
          have s5 := cell_block S3.out 0
          have HRR : Hid (Rd (wr.setCell ⟨w.heap.size, 0, none⟩ (.slice va t.length vc)) g q) := HI.out.rd.setC hg
          have HGG : Hid (w.grownBy (wr.setCell ⟨w.heap.size, 0, none⟩ (.slice va t.length vc)) (some g)) := grown_setN HI.out.grown (Nat.le_refl _)
          have HVT : Hid (VT t) := HI.out.vt
          clear HFL
          go_wp2_with fail
          all_goals go_tidy
          refine ⟨rfl, .agg #[.slice va t.length vc], by simp [results, Try.results48, go_sem, s5], _, t, q, rfl, HVT.out, HRZ.out, HRR.out, by omega, HGG.out⟩
        · have hgj0 : (0 : Int) < (gk : Int) := by omega
          go_wp2_with fail
          refine HFL.out.mono ?_
          rintro e w3 ⟨lv, rfl, ho, hb⟩
          have I3 := hide (HI.out.keep hb)
          have Z3 := hide (blk_own hb HZ.out)
          have HO3 := hide ho
          obtain ⟨la, lc, rfl, -⟩ := own_slc ho
          obtain ⟨F, hF⟩ : ∃ F, flatT t = F := ⟨_, rfl⟩
          have HF := hide hF
          rw [hF] at HO3 hn30 ⊢
          clear ho hb HFL HI HZ c0 f0 hF
          have hl3 := lt_block I3.out.bx
          have hz3 := lt_block Z3.out
          have c0 := cell_block I3.out.bx 0
          have hgw3 : g < w3.heap.size := I3.out.rd.lt
          by_cases hF0 : (0 : Int) < (F.length : Int)
          · have hFp : 0 < F.length := by omega
            have hit3 := HO3.out.itms
            obtain ⟨_, _, he, hlc1, hlc2, hd⟩ := hit3
            injection he with he1 _ he2
            subst he1; subst he2
            obtain ⟨lb, lo, rfl, -, -⟩ := hd.resolve_left (by rintro rfl; simp at hFp)
            have HIX : Hid (∀ (w4 : World) (i : Nat), w3.drew.grownBy w4 (some g) → i < F.length → ∃ y : Itm, hasI (flatT t) y = true ∧ ItmAt w4 lb (lo + i * 2) y) := fun w4 i hg4 hi => by
              have hk := (HO3.out.itms.keep ((Below.refl w3.heap.size w3).drew)).kept hg4 (fun hf a n c e q => itms_rd I3.out.rd HO3.out.itms hf e (by injection q with q; exact q.symm))
              obtain ⟨_, _, he, -, -, hd⟩ := hk
              injection he with he1 _ _
              subst he1
              obtain ⟨lb', lo', he, -, hlc⟩ := hd.resolve_left (by intro h; rw [h] at hi; simp at hi)
              injection he with he
              injection he with e1 e2 _
              subst e1; subst e2
              exact ⟨F[i], by rw [HF.out]; exact hasI_iff.2 (List.getElem_mem hi), hlc i hi⟩
            clear hd
            have HI3 : Hid (TInv w w3.drew g (w.heap.size + 1) (.slice va t.length vc) t q) := I3.out.keep ((Below.refl _ _).drew)
            go_wp2_with fail
            go_region_law (first
              | (go_simp; go_at_call 44; (with_reducible refine (pick_any g q (F.length : Int) _ HI3.out.rd (by omega)).mono ?_); rintro e w4 ⟨i, rfl, hi, hR4, hg4⟩; have I4 := hide (HI3.out.by hg4 hR4); have Z4 := hide ((hg4.block w.heap.size hz3 (fun e => by injection e with e; omega)).trans Z3.out); obtain ⟨i, rfl⟩ : ∃ i' : Nat, i = (i' : Int) := (⟨i.toNat, by have := hi.1; omega⟩); have hiF : i < F.length := (by have := hi.2 (by omega); omega); have hiF' : (i : Int) < (F.length : Int) := (by omega); obtain ⟨y, hmem, hy⟩ := HIX.out w4 i hg4 hiF; have HMEM := hide hmem; obtain ⟨e0, e1⟩ := hy; have c4 := cell_block I4.out.bx 0; clear hi hR4 hg4 hmem)
              | (go_simp; go_at_call 27; (with_reducible refine (streeDelete_any _ t y w4 I4.out.lv.lvs (by rw [HF.out]; omega)).mono ?_); rintro e w5 ⟨rv, r, b, rfl, hch, hl5, hb⟩; have I5 := hide (I4.out.keep hb); have Z5 := hide (blk_own hb Z4.out); have HV : Hid (VT r) := (by have hok : delOk t y := (And.intro I4.out.vt HMEM.out); unfold Hid; rw [(hch.1 hok).2]; exact VT.del hok.1 hok.2); have hl4 := lt_block I4.out.bx; have HL5 := hide (hl5.mono (B' := w.heap.size) I4.out.size); obtain ⟨ra, rc, rfl⟩ := hl5.nil_eq; have D0 := cell_block I5.out.bx 0; have DF := froz_block I5.out.bx 0; clear hch hl5 hb))
            all_goals
              have HS := hide (I5.out.store ⟨_, _, _, rfl⟩ HV.out HL5.out)
              have HZS := hide ((Below.heap_setCell w5 ⟨w.heap.size + 1, 0, none⟩ (.slice ra r.length rc) w.heap.size (by show w.heap.size ≠ w.heap.size + 1; omega)).trans Z5.out)
              clear D0 DF c4 e0 e1
              go_wp2_with fail
              go_roundg (gk - 1)
              case measure => omega
              case rel => exact ⟨by omega, by go_num, HZS.out, _, _, _, HS.out, by omega, by omega⟩
          · go_wp2_with fail
            go_roundg (gk - 1)
            case measure => omega
            case rel => exact ⟨by omega, by go_num, Z3.out, _, _, _, I3.out, by omega, by omega⟩
    · have hgk0 : (0 : Int) < (gk : Int) := by omega
      have AC : ∀ o, ((wr.alloc o).drew).cell? ⟨w.heap.size + 1, 0, none⟩ = some (.slice va t.length vc) := fun o => (cell_alloc (p := ⟨w.heap.size + 1, 0, none⟩) hbl o).trans c0
      have HRD : Hid (Rd wr.drew g q) := HI.out.rd
      have HRA : Hid (∀ o, Rd (wr.alloc o).drew g q) := fun o => HI.out.rd.alloc o
      have HID : Hid (TInv w wr.drew g (w.heap.size + 1) (.slice va t.length vc) t q) := HI.out.keep ((Below.refl _ _).drew)
      have HIA : Hid (∀ o, TInv w (wr.alloc o).drew g (w.heap.size + 1) (.slice va t.length vc) t q) := fun o => HI.out.keep (below_box wr o).drew
      have HZD : Hid (wr.drew.heap[w.heap.size]? = some (.cells #[.slice none 0 0] 25 (0, 0))) := HZ.out
      have HZA : Hid (∀ o, (wr.alloc o).drew.heap[w.heap.size]? = some (.cells #[.slice none 0 0] 25 (0, 0))) := fun o => blk_drew0 (blk_keep HZ.out o)
      have hgw : g < wr.heap.size := HI.out.rd.lt
      have hwr := HI.out.size
      go_wp2_with fail
      go_cut [5, 6] (fun s5 s6 wx => ∃ (g5 : Nat) (b : Bool) (rv : Value) (r : List (List Itm)), s5 = .pointer (some ⟨g5, 0, none⟩) ∧ s6 = .bool b ∧ wx.heap[w.heap.size]? = some (.cells #[.slice none 0 0] 25 (0, 0)) ∧ TInv w wx g (w.heap.size + 1) (.slice va t.length vc) t (q + 1 + 1) ∧ wx.heap[g5]? = some (.cells #[rv] 25 (0, 0)) ∧ (b = true → VT r ∧ OwnR w.heap.size wx rv r))
      case first =>
        go_region_law (first
          | (go_simp; go_at_call 49; (with_reducible refine (randomItem_any g q _ HRD.out (by omega)).mono ?_); rintro e w3 ⟨x, rfl, hx, hR3, hg3⟩; have I3 := hide (HID.out.by hg3 hR3); have HX3 := hide hx; have Z3 := hide ((hg3.block w.heap.size (lt_block HZD.out) (fun e => by injection e with e; omega)).trans HZD.out); have hl3 := lt_block I3.out.bx; have c3 := cell_block I3.out.bx 0; have A3 := (fun o => (cell_alloc (p := ⟨w.heap.size + 1, 0, none⟩) hl3 o).trans c3); have hs3 := I3.out.size; clear hx hR3 hg3)
          | (go_simp; go_at_call 49; (with_reducible refine (randomItem_any g q _ (HRA.out _) (by omega)).mono ?_); rintro e w3 ⟨x, rfl, hx, hR3, hg3⟩; have I3 := hide ((HIA.out _).by hg3 hR3); have HX3 := hide hx; have N3 := hide ((hg3.block wr.heap.size (lt_block (blk_drew0 (blk_alloc wr (.cells #[.slice none 0 0] 25)))) (fun e => by injection e with e; omega)).trans (blk_drew0 (blk_alloc wr (.cells #[.slice none 0 0] 25)))); have Z3 := hide ((hg3.block w.heap.size (lt_block (HZA.out (.cells #[.slice none 0 0] 25))) (fun e => by injection e with e; omega)).trans (HZA.out (.cells #[.slice none 0 0] 25))); have hl3 := lt_block I3.out.bx; have c3 := cell_block I3.out.bx 0; have A3 := (fun o => (cell_alloc (p := ⟨w.heap.size + 1, 0, none⟩) hl3 o).trans c3); have hs3 := I3.out.size; clear hx hR3 hg3)
          | (go_simp; go_at_call 37; (with_reducible refine (streeInsert_any _ t x w3 I3.out.lv.lvs (by omega)).mono ?_); rintro e w4 ⟨rv, r, b, rfl, hch, hl4, hb⟩; have I4 := hide (I3.out.keep hb); have Z4 := hide (blk_own hb Z3.out); (first | (have N4 := hide (blk_own hb N3.out); have D0 := cell_block N4.out 0; have DF := froz_block N4.out 0) | skip); have HV : Hid (b = true → VT r) := (fun hbt => by subst hbt; by_cases c : insOk t x; (rw [(hch.1 c).2]; exact VT.ins c.1 c.2.1 c.2.2.1 c.2.2.2); (have := (hch.2 c).1; cases this)); have HL4 := hide (hl4.mono (B' := w.heap.size) hs3); obtain ⟨ra, rc, rfl⟩ := hl4.nil_eq; clear hch hl4 hb)
          | (go_simp; go_at_call 37; (with_reducible refine (streeInsert_any _ t x (w3.alloc _) (I3.out.lv.lvs.keep (below_box w3 _)) (by omega)).mono ?_); rintro e w4 ⟨rv, r, b, rfl, hch, hl4, hb⟩; have I4 := hide ((I3.out.keep (below_box w3 (.cells #[.slice none 0 0] 25))).keep hb); have Z4 := hide (blk_own hb (blk_keep Z3.out (.cells #[.slice none 0 0] 25))); have N4 := hide (blk_own hb (blk_alloc w3 (.cells #[.slice none 0 0] 25))); have D0 := cell_block N4.out 0; have DF := froz_block N4.out 0; have HV : Hid (b = true → VT r) := (fun hbt => by subst hbt; by_cases c : insOk t x; (rw [(hch.1 c).2]; exact VT.ins c.1 c.2.1 c.2.2.1 c.2.2.2); (have := (hch.2 c).1; cases this)); have HL4 := hide (hl4.mono (B' := w.heap.size) (Nat.le_trans hs3 (below_box w3 (.cells #[.slice none 0 0] 25)).size)); obtain ⟨ra, rc, rfl⟩ := hl4.nil_eq; clear hch hl4 hb))
        all_goals
          clear A3 AC
          go_wp2_with fail
          go_meet
          first
          | exact ⟨w4.heap.size, b, _, r, rfl, rfl, blk_keep Z4.out _, I4.out.keep (below_box w4 _), blk_alloc w4 _, fun hbt => ⟨HV.out hbt, HL4.out.keep (below_box w4 _)⟩⟩
          | exact ⟨wr.heap.size, b, _, r, rfl, rfl, (Below.heap_setCell w4 ⟨wr.heap.size, 0, none⟩ _ w.heap.size (by show w.heap.size ≠ wr.heap.size; omega)).trans Z4.out, I4.out.setN (by omega) (by omega) N4.out, set_block N4.out 0 _, fun hbt => ⟨HV.out hbt, HL4.out.boxT N4.out⟩⟩
          | exact ⟨w3.heap.size, b, _, r, rfl, rfl, (Below.heap_setCell w4 ⟨w3.heap.size, 0, none⟩ _ w.heap.size (by show w.heap.size ≠ w3.heap.size; omega)).trans Z4.out, I4.out.setN (by omega) (by omega) N4.out, set_block N4.out 0 _, fun hbt => ⟨HV.out hbt, HL4.out.boxT N4.out⟩⟩
      case rest =>
        obtain ⟨g5, b, rv, r, rfl, rfl, hz, hI, h5, hb⟩ := hcut
        have HZ5 := hide hz
        have HI5 := hide hI
        have H5 := hide h5
        have HB := hide hb
        have d0 := cell_block h5 0
        have d1 := cell_block hI.bx 0
        have d2 := froz_block hI.bx 0
        clear hz hI h5 hb HID HIA HZD HZA HRD HRA AC c0 f0
        cases b with
        | true =>
          obtain ⟨hv, hl⟩ := HB.out rfl
          have HS := hide (HI5.out.store ⟨_, _, _, rfl⟩ hv hl)
          have HZS := hide ((Below.heap_setCell wc ⟨w.heap.size + 1, 0, none⟩ rv w.heap.size (by show w.heap.size ≠ w.heap.size + 1; omega)).trans HZ5.out)
          obtain ⟨ra, rc, rfl⟩ := hl.nil_eq
          clear hv hl HB
          go_wp2_with fail
          go_roundg (gk - 1)
          case measure => omega
          case rel => exact ⟨by omega, by go_num, HZS.out, _, _, _, HS.out, by omega, by omega⟩
        | false =>
          clear HB
          go_wp2_with fail
          go_roundg (gk - 1)
          case measure => omega
          case rel => exact ⟨by omega, by go_num, HZ5.out, _, _, _, HI5.out, by omega, by omega⟩
end Go.Proofs.Ytmlphdniiiijpaa
