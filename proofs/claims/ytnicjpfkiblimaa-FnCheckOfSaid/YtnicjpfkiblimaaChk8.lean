/-
  CheckOf of the program: its walk.
-/
import Derived.Test.YtnicjpfkiblimaaChk7
set_option linter.all false
namespace Go.Proofs.Ytnicjpfkiblimaa
open Go.RowKit
theorem own_slice {B : Nat} {w : World} {v : Value} {ns : List Int} (h : OwnN B w v ns) : ∃ a n c, v = .slice a n c := by
  rcases h.2 with ⟨rfl, _⟩ | ⟨g, cap, cur, rfl, _⟩
  · exact ⟨_, _, _, rfl⟩
  · exact ⟨_, _, _, rfl⟩
def CRel (w : World) (c : List RCell) (l : List RNote) (B gk : Nat) (s : Value) (wr : World) : Prop :=
  Below w.heap.size w wr ∧ wr.heap[w.heap.size]? = some (.cells #[.slice none 0 0, .slice none 0 0, .slice none 0 0] 29 (0, 0)) ∧ w.heap.size < B ∧
    ∃ k : Nat, k + gk = c.length ∧ s = .int .i64 (k : Int) ∧ OBox B wr (dirT (fstN c l) k) (firT (fstN c l) k)
theorem crel_keep {w w' : World} {c : List RCell} {l : List RNote} {B gk : Nat} {s : Value} {wr : World} (h : CRel w c l B gk s wr) (hb : Below wr.heap.size wr w') : CRel w c l B gk s w' := by
  obtain ⟨h1, h2, h3, k, h4, h5, h6⟩ := h
  exact ⟨h1.trans (hb.mono h1.size), blk_own hb h2, h3, k, h4, h5, h6.keep hb⟩
set_option maxHeartbeats 16000000 in
theorem iCheckOf_any (v u : Value) (c : List RCell) (l : List RNote) (w : World) (h : Cells w v c) (h' : Notes w u l) :
    Calls Try.prog 5 #[v, u] w (CkRet w c l) := by
  have HC := hide h
  have HN := hide h'
  have HA := hide ((Below.refl w.heap.size w).alloc (Nat.le_refl _) (.cells #[.slice none 0 0, .slice none 0 0, .slice none 0 0] 29))
  obtain ⟨a, cap, rfl, hl, hcap, -⟩ := h
  obtain ⟨a', cap', rfl, hl', hcap', -⟩ := h'
  obtain ⟨i0, hi0, hz0, hz1, hz2⟩ := info_parts infoN
  go_enter Try.func5, Try.ntmps5
  go_wp2_with fail
  refine (canRedo_any _ _ c l _ (HC.out.keep HA.out) (HN.out.keep HA.out)).mono ?_
  rintro e1 w1 ⟨b, rfl, hb, hb1⟩
  have H1 : Hid (Below w.heap.size w w1) := HA.out.trans (hb1.mono HA.out.size)
  have Z1 : Hid (w1.heap[w.heap.size]? = some (.cells #[.slice none 0 0, .slice none 0 0, .slice none 0 0] 29 (0, 0))) := blk_own hb1 (blk_alloc w _)
  have m1 : w.heap.size < w1.heap.size := lt_block Z1.out
  have HB := hide hb
  clear hb1 HA hb
  cases b with
  | false =>
    have NU : Hid (¬ usP c l) := fun hu => by have := HB.out.2 hu; cases this
    have z0 : w1.cell? ⟨w.heap.size, 0, none⟩ = some (.slice none 0 0) := by rw [cell_block Z1.out]; rfl
    have z1 : w1.cell? ⟨w.heap.size, 1, none⟩ = some (.slice none 0 0) := by rw [cell_block Z1.out]; rfl
    have z2 : w1.cell? ⟨w.heap.size, 2, none⟩ = some (.slice none 0 0) := by rw [cell_block Z1.out]; rfl
    have f0 := froz_block Z1.out 0
    have f1 := froz_block Z1.out 1
    have f2 := froz_block Z1.out 2
    have B0 := set_block Z1.out 0 (.slice none 0 0)
    have B1 := set_block B0 1 (.slice none 0 0)
    have B2 := set_block B1 2 (.slice none 0 0)
    have s0 := cell_block B2 0
    have s1 := cell_block B2 1
    have s2 := cell_block B2 2
    go_wp2_with fail
    all_goals go_tidy
    refine ⟨rfl, .agg #[.slice none 0 0, .slice none 0 0, .slice none 0 0], by simp [results, Try.results5, go_sem, s0, s1, s2], ckret_no NU.out ?_⟩
    repeat (first | (with_reducible exact H1.out) | (with_reducible refine Below.setCell ?_ (by simp) _))
  | true =>
    have US : Hid (usP c l) := HB.out.1 rfl
    have hcl : c.length ≤ 6 := US.out.1.1.2
    have hll : l.length ≤ 20 := US.out.1.2
    clear HB
    go_wp2_with fail
    go_loopg [17] c.length (fun gk s17 wr => CRel w c l w1.heap.size gk s17 wr)
    case atStart => exact ⟨H1.out.alloc H1.out.size _, blk_keep Z1.out _, m1, 0, by omega, rfl, _, _, blk_alloc w1 _, World.ownsRow_nil _ _ _ _, World.ownsRow_nil _ _ _ _, fun b hb => by simp [Value.ownBlock] at hb⟩
    case round =>
      obtain ⟨hbw, hz, -, k, hk, rfl, hbox⟩ := hrel
      have HW := hide hbw
      have HZ := hide hz
      have HX := hide hbox
      have C := hide (HC.out.keep hbw)
      have N := hide (HN.out.keep hbw)
      have hgw : w1.heap.size < wr.heap.size := by obtain ⟨d, f, h1, -⟩ := hbox; exact lt_block h1
      clear hbw hz hbox
      by_cases hlt : k < c.length
      · obtain ⟨b, off, rfl, e0, e1⟩ : ∃ b off, a = some ⟨b, off, none⟩ ∧ wr.cell? ⟨b, off + k * 2, none⟩ = some (.int .i64 c[k].num) ∧ wr.cell? ⟨b, off + k * 2 + 1, none⟩ = some (.int .i64 c[k].lsn) := by
          obtain ⟨a2, cap2, hv, -, -, hd⟩ := C.out
          injection hv with ha _ _
          subst ha
          obtain ⟨b, off, rfl, hbb, hcell⟩ := hd.resolve_left (by rintro rfl; simp at hlt)
          exact ⟨b, off, rfl, (hcell k hlt).1, (hcell k hlt).2⟩
        have HF0 : Hid (fstN c l k = lo (hitF c l k) 0 l.length) := rfl
        have DN := hide (fun h => dirT_no (F := fstN c l) (k := k) h)
        have FN := hide (fun h => firT_no (F := fstN c l) (k := k) h)
        have DY := hide (fun h => dirT_yes (F := fstN c l) (k := k) h)
        have FY := hide (fun h => firT_yes (F := fstN c l) (k := k) h)
        have dl := (dirT_len (fstN c l) k).1
        have fl := Nat.le_trans (Nat.le_of_eq (dirT_len (fstN c l) k).2) dl
        have HI := hide (fun i (hi : i < l.length) => hitF_at (c := c) (l := l) (t := k) hlt hi)
        obtain ⟨X, hX⟩ : ∃ X, X = c[k] := ⟨_, rfl⟩
        rw [← hX] at e0 e1 HI
        clear hX
        go_wp2_with fail
        obtain ⟨WX, hWX⟩ : ∃ W, W = wr.alloc (.cells #[.int .i64 X.num, .int .i64 X.lsn] 33) := ⟨_, rfl⟩
        rw [← hWX]
        have hbx : Below wr.heap.size wr WX := by rw [hWX]; exact (Below.refl _ _).alloc (Nat.le_refl _) _
        have BX : Hid (WX.heap[wr.heap.size]? = some (.cells #[.int .i64 X.num, .int .i64 X.lsn] 33 (0, 0))) := by rw [hWX]; exact blk_alloc wr _
        have HW := hide (HW.out.trans (hbx.mono HW.out.size))
        have HZ := hide (blk_own hbx HZ.out)
        have HX := hide (HX.out.keep hbx)
        have N := hide (N.out.keep hbx)
        have hgx : wr.heap.size < WX.heap.size := lt_block BX.out
        clear hbx hWX e0 e1 C
        generalize wr.heap.size = gx at *
        have K1 := hide hk
        clear hk
        obtain ⟨G, hG⟩ : ∃ G, G = gk := ⟨_, rfl⟩
        go_loopg [24] l.length (fun gk s24 wr => Below WX.heap.size WX wr ∧ ∃ i : Nat, i + gk = l.length ∧ s24 = .int .i64 (i : Int) ∧ fstN c l k = lo (hitF c l k) i gk)
        case atStart => exact ⟨Below.refl _ _, 0, by omega, rfl, HF0.out⟩
        case round =>
          clear HF0
          obtain ⟨hbw, i, hi, rfl, hF⟩ := hrel
          have HQ := hide (HW.out.trans (hbw.mono HW.out.size))
          have ZQ := hide (blk_own hbw HZ.out)
          have XQ := hide (HX.out.keep hbw)
          have NQ := hide (N.out.keep hbw)
          have BQ := hide (blk_own hbw BX.out)
          have HWQ := hide hbw
          have HF := hide hF
          have hgq : gx < wr.heap.size := lt_block BQ.out
          have x1 : wr.cell? ⟨gx, 1, none⟩ = some (.int .i64 X.lsn) := by rw [cell_block BQ.out]; rfl
          clear hbw hF
          by_cases hli : i < l.length
          · obtain ⟨b', off', rfl, e0, e1, e2, e3, e4⟩ : ∃ b' off', a' = some ⟨b', off', none⟩ ∧ NoteAt wr b' (off' + i * 5) l[i] := by
              obtain ⟨a2, cap2, hv, -, -, hd⟩ := NQ.out
              injection hv with ha _ _
              subst ha
              obtain ⟨b, off, rfl, hbb, hcell⟩ := hd.resolve_left (by rintro rfl; simp at hli)
              exact ⟨b, off, rfl, hcell i hli⟩
            obtain ⟨gj, rfl⟩ : ∃ gj, gk = gj + 1 := ⟨gk - 1, by omega⟩
            have HIT := hide (HI.out i hli)
            have YES := hide (fun h => HF.out.trans (lo_yes (p := hitF c l k) (i := i) (m := gj) h))
            have NO := hide (fun h => HF.out.trans (lo_no (p := hitF c l k) (i := i) (m := gj) h))
            clear HF
            generalize l[i] = n at *
            obtain ⟨nf, hnf⟩ : ∃ nf, n.fin = nf := ⟨_, rfl⟩
            rw [hnf] at e0
            have HNF := hide hnf
            clear hnf
            cases nf with
            | true =>
              have HH : Hid (hitF c l k i = false) := by unfold Hid; rw [HIT.out]; simp [hit, HNF.out]
              go_wp2_with fail
              go_roundg gj
              case measure => omega
              case rel => exact ⟨HWQ.out.alloc HWQ.out.size _, i + 1, by omega, by go_num, NO.out HH.out⟩
            | false =>
              by_cases ht : n.thing = (k : Int)
              · have dt : (n.thing == (k : Int)) = true := by rw [beq_iff_eq]; exact ht
                have HT := hide ht
                by_cases hlsn : X.lsn < (i : Int) + 1
                · have dl2 : decide (X.lsn < (i : Int) + 1) = true := decide_eq_true hlsn
                  have HH : Hid (hitF c l k i = true) := by unfold Hid; rw [HIT.out]; simp [hit, HNF.out, HT.out, hlsn]
                  have HFV := hide (YES.out HH.out)
                  clear YES NO HIT HI HH
                  obtain ⟨d, f, hbx, ho1, ho2, hne⟩ := XQ.out
                  have BX0 := hide hbx
                  have O1 := hide ho1
                  have O2 := hide ho2
                  have NE := hide hne
                  have c0 : wr.cell? ⟨w1.heap.size, 0, none⟩ = some d := by rw [cell_block BX0.out]; rfl
                  have hBs : w1.heap.size < wr.heap.size := lt_block BX0.out
                  clear hbx ho1 ho2 hne XQ NQ N HX BX BQ HW HZ
                  have DD : Hid (dirT (fstN c l) (k + 1) = dirT (fstN c l) k ++ [(k : Int)]) := DY.out (by rw [HFV.out]; omega)
                  have FF : Hid (firT (fstN c l) (k + 1) = firT (fstN c l) k ++ [(i : Int) + 1]) := by have := FY.out (by rw [HFV.out]; omega); rw [HFV.out] at this; unfold Hid; simpa using this
                  clear DY FY DN FN HFV
                  generalize dirT (fstN c l) k = D0 at *
                  generalize firT (fstN c l) k = F0 at *
                  go_wp2_with (at_builtin; refine wpList_append_lies _ rfl (.tmp 46) (.tmp 48) 27 rfl (w1.heap.size + 1) 3 i0 _ 1 8 Try.underlying27 hi0 hz0 hz1 hz2 rfl (by decide) _ _ _ rfl (World.ownsRow.alloc (World.ownsRow.alloc O1.out _) _) ⟨_, 0, none⟩ 1 1 [.int .i64 (k : Int)] rfl rfl ?c1 ?h1 (by decide) ?h63 ?hb ?hbase _ rfl ?next)
                  case c1 => exact World.news_of_block (cs := #[.int .i64 (k : Int)]) (blk_at (by simp) _)
                  case h1 => intro u hu; simp at hu; subst hu; rfl
                  case h63 => unfold maxLen; omega
                  case hb => omega
                  case hbase => simp; omega
                  case next =>
                    intro g1 cp1 w3 hown hgrow hat hlt3
                    have P1 : Hid (OwnN (w1.heap.size + 1) w3 (.slice (some ⟨g1, 0, none⟩) (D0.length + 1) cp1) (dirT (fstN c l) (k + 1))) := by
                      rw [DD.out]
                      unfold Hid OwnN
                      rw [List.length_append, List.map_append]
                      exact hown
                    have P2 : Hid (OwnN (w1.heap.size + 1) w3 f F0) := own_kept (World.ownsRow.alloc (World.ownsRow.alloc O2.out _) _) hgrow NE.out
                    have PN : Hid (f.ownBlock ≠ some g1) := by
                      rcases hat with hat | hat
                      · exact NE.out _ hat
                      · intro e
                        have := (World.ownsRow.lt O2.out _ e).2
                        try simp at hat
                        omega
                    have W3 : Hid (Below w.heap.size w w3) := ((HQ.out.alloc HQ.out.size _).alloc (by have := HQ.out.size; simp; omega) _).grown hgrow (by have := HQ.out.size; simp; omega) (fun q hq => by have := (World.ownsRow.lt O1.out q hq).1; omega)
                    have Z3 : Hid (w3.heap[w.heap.size]? = some (.cells #[.slice none 0 0, .slice none 0 0, .slice none 0 0] 29 (0, 0))) := (hgrow.block _ (by simp; omega) (fun hq => by have := (World.ownsRow.lt O1.out _ hq.symm).1; omega)).trans (blk_keep (blk_keep ZQ.out _) _)
                    have B3 : Hid (w3.heap[w1.heap.size]? = some (.cells #[d, f, .slice none 0 0] 29 (0, 0))) := (hgrow.block _ (by simp; omega) (fun hq => by have := (World.ownsRow.lt O1.out _ hq.symm).1; omega)).trans (blk_keep (blk_keep BX0.out _) _)
                    have d0 : w3.cell? ⟨w1.heap.size, 0, none⟩ = some d := by rw [cell_block B3.out]; rfl
                    have d1 : w3.cell? ⟨w1.heap.size, 1, none⟩ = some f := by rw [cell_block B3.out]; rfl
                    have f0 := froz_block B3.out 0
                    have f1 := froz_block B3.out 1
                    have hs3 := W3.out.size
                    have hB3 : w1.heap.size < w3.heap.size := lt_block B3.out
                    clear hown hgrow hat c0 O1 O2 NE HQ ZQ BX0 HWQ
                    go_wp2_with (at_builtin; refine wpList_append_lies _ rfl (.tmp 52) (.tmp 55) 27 rfl (w1.heap.size + 1) 3 i0 _ 1 8 Try.underlying27 hi0 hz0 hz1 hz2 rfl (by decide) _ _ _ rfl (World.ownsRow.alloc (own_set P2.out (by omega)) _) ⟨_, 0, none⟩ 1 1 [.int .i64 ((i : Int) + 1)] rfl rfl ?c1 ?h1 (by decide) ?h63 ?hb ?hbase _ rfl ?next)
                    case c1 => exact World.news_of_block (cs := #[.int .i64 ((i : Int) + 1)]) (blk_at (by simp) _)
                    case h1 => intro u hu; simp at hu; subst hu; rfl
                    case h63 => unfold maxLen; omega
                    case hb => omega
                    case hbase => simp; omega
                    case next =>
                      intro g2 cp2 w4 hown hgrow hat hlt4
                      have hs3' : w1.heap.size < (w3.setCell ⟨w1.heap.size, 0, none⟩ (.slice (some ⟨g1, 0, none⟩) (D0.length + 1) cp1)).heap.size := by simp; exact hB3
                      have Q2 : Hid (OwnN (w1.heap.size + 1) w4 (.slice (some ⟨g2, 0, none⟩) (F0.length + 1) cp2) (firT (fstN c l) (k + 1))) := by
                        rw [FF.out]
                        unfold Hid OwnN
                        rw [List.length_append, List.map_append]
                        exact hown
                      have Q1 : Hid (OwnN (w1.heap.size + 1) w4 (.slice (some ⟨g1, 0, none⟩) (D0.length + 1) cp1) (dirT (fstN c l) (k + 1))) := own_kept (World.ownsRow.alloc (own_set P1.out (by omega)) _) hgrow (fun b hb e => PN.out (by simp [Value.ownBlock] at e; rw [hb, e]))
                      have QN : Hid (g1 ≠ g2) := by
                        unfold Hid
                        rcases hat with hat | hat
                        · intro e; subst e; exact PN.out hat
                        · have := hlt3
                          try simp at hat
                          omega
                      have W4 : Hid (Below w.heap.size w w4) := ((W3.out.setCell (by simp; omega) _).alloc (by simp; omega) _).grown hgrow (by simp; omega) (fun q hq => by have := (World.ownsRow.lt P2.out q hq).1; omega)
                      have Z4 : Hid (w4.heap[w.heap.size]? = some (.cells #[.slice none 0 0, .slice none 0 0, .slice none 0 0] 29 (0, 0))) := (hgrow.block _ (by simp; omega) (fun hq => by have := (World.ownsRow.lt P2.out _ hq.symm).1; omega)).trans (blk_keep (blk_other Z3.out (by omega)) _)
                      have B4 : Hid (w4.heap[w1.heap.size]? = some (.cells #[.slice (some ⟨g1, 0, none⟩) (D0.length + 1) cp1, f, .slice none 0 0] 29 (0, 0))) := (hgrow.block _ (by simp; omega) (fun hq => by have := (World.ownsRow.lt P2.out _ hq.symm).1; omega)).trans (blk_keep (set_block B3.out 0 _) _)
                      have e1 : w4.cell? ⟨w1.heap.size, 1, none⟩ = some f := by rw [cell_block B4.out]; rfl
                      have ff1 := froz_block B4.out 1
                      have hB4 : w1.heap.size < w4.heap.size := lt_block B4.out
                      clear hown hgrow hat d0 d1 f0 f1
                      go_wp2_with fail
                      go_roundg (G - 1)
                      case measure => have := K1.out; omega
                      case rel => exact ⟨W4.out.setCell (by simp; omega) _, blk_other Z4.out (by omega), by omega, k + 1, by have := K1.out; omega, by go_num, _, _, set_block B4.out 1 _, own_set Q1.out (by omega), own_set Q2.out (by omega), fun b hb e => by simp [Value.ownBlock] at hb e; exact QN.out (hb.trans e.symm)⟩
                · have dl2 : decide (X.lsn < (i : Int) + 1) = false := decide_eq_false hlsn
                  have HH : Hid (hitF c l k i = false) := by unfold Hid; rw [HIT.out]; simp [hit, dl2]
                  have HLS := hide (Int.not_lt.1 hlsn)
                  clear hlsn
                  go_wp2_with fail
                  go_roundg gj
                  case measure => omega
                  case rel => exact ⟨HWQ.out.alloc HWQ.out.size _, i + 1, by omega, by go_num, NO.out HH.out⟩
              · have dt : (n.thing == (k : Int)) = false := by rw [beq_eq_false_iff_ne]; exact ht
                have HH : Hid (hitF c l k i = false) := by unfold Hid; rw [HIT.out]; simp [hit, dt]
                have HT := hide ht
                clear ht
                go_wp2_with fail
                go_roundg gj
                case measure => omega
                case rel => exact ⟨HWQ.out.alloc HWQ.out.size _, i + 1, by omega, by go_num, NO.out HH.out⟩
          · have hg0 : gk = 0 := by omega
            subst hg0
            have HF1 : Hid (fstN c l k = 0) := HF.out
            clear NQ
            go_wp2_with fail
            go_roundg (G - 1)
            case measure => have := K1.out; omega
            case rel => exact ⟨HQ.out, ZQ.out, by omega, k + 1, by have := K1.out; omega, by go_num, by rw [DN.out HF1.out, FN.out HF1.out]; exact XQ.out⟩
      · have hkl : k = c.length := by omega
        subst hkl
        have OO := hide (openOwners_any (.slice a' l.length cap') l wr N.out (fun i hi => (US.out.2.2 i hi).1))
        clear C HN N HC
        obtain ⟨d, f, hbx, ho1, ho2, hne⟩ := HX.out
        obtain ⟨da, dn, dc, rfl⟩ := own_slice ho1
        obtain ⟨fa, fn, fc, rfl⟩ := own_slice ho2
        have BX0 := hide hbx
        have O1 := hide ho1
        have O2 := hide ho2
        have NE := hide hne
        clear hbx ho1 ho2 hne HX
        go_wp2_with fail
        refine OO.out.mono ?_
        rintro e1 w2 ⟨q, rfl, hq, hb2⟩
        obtain ⟨qa, qn, qc, rfl⟩ := own_slice hq
        have H2 : Hid (Below w.heap.size w w2) := HW.out.trans (hb2.mono HW.out.size)
        have Z2 := hide (blk_own hb2 HZ.out)
        have B2 := hide (blk_own hb2 BX0.out)
        have P1 := hide (O1.out.keep hb2)
        have P2 := hide (O2.out.keep hb2)
        have Q := hide hq
        have QN : Hid (∀ b, (Value.slice qa qn qc).ownBlock = some b → wr.heap.size ≤ b) := fun b hb => (World.ownsRow.lt hq b hb).1
        have PL1 : Hid (∀ b, (Value.slice da dn dc).ownBlock = some b → b < wr.heap.size) := fun b hb => (World.ownsRow.lt O1.out b hb).2
        have PL2 : Hid (∀ b, (Value.slice fa fn fc).ownBlock = some b → b < wr.heap.size) := fun b hb => (World.ownsRow.lt O2.out b hb).2
        clear hq hb2 O1 O2 OO HZ HW BX0
        have c0 : w2.cell? ⟨w1.heap.size, 0, none⟩ = some (.slice da dn dc) := by rw [cell_block B2.out]; rfl
        have c1 : w2.cell? ⟨w1.heap.size, 1, none⟩ = some (.slice fa fn fc) := by rw [cell_block B2.out]; rfl
        have c2 : w2.cell? ⟨w1.heap.size, 2, none⟩ = some (.slice none 0 0) := by rw [cell_block B2.out]; rfl
        have f2 := froz_block B2.out 2
        have z0 : w2.cell? ⟨w.heap.size, 0, none⟩ = some (.slice none 0 0) := by rw [cell_block Z2.out]; rfl
        have z1 : w2.cell? ⟨w.heap.size, 1, none⟩ = some (.slice none 0 0) := by rw [cell_block Z2.out]; rfl
        have z2 : w2.cell? ⟨w.heap.size, 2, none⟩ = some (.slice none 0 0) := by rw [cell_block Z2.out]; rfl
        have g0 := froz_block Z2.out 0
        have g1 := froz_block Z2.out 1
        have g2 := froz_block Z2.out 2
        have S2 := blk_other (b' := w1.heap.size) (o := 2) (v := .slice qa qn qc) Z2.out (by omega)
        have S3 := set_block (set_block (set_block S2 0 (.slice da dn dc)) 1 (.slice fa fn fc)) 2 (.slice qa qn qc)
        have s0 := cell_block S3 0
        have s1 := cell_block S3 1
        have s2 := cell_block S3 2
        go_wp2_with fail
        all_goals go_tidy
        refine ⟨rfl, .agg #[.slice da dn dc, .slice fa fn fc, .slice qa qn qc], by simp [results, Try.results5, go_sem, s0, s1, s2], _, _, _, _, _, _, rfl, ⟨fun _ => ⟨rfl, rfl, rfl⟩, fun h => absurd US.out h⟩, ?_, ?_⟩
        · have T : ∀ {B : Nat} {v : Value} {ns : List Int}, OwnN B w2 v ns → w1.heap.size < B → OwnN w.heap.size ((((w2.setCell ⟨w1.heap.size, 2, none⟩ (.slice qa qn qc)).setCell ⟨w.heap.size, 0, none⟩ (.slice da dn dc)).setCell ⟨w.heap.size, 1, none⟩ (.slice fa fn fc)).setCell ⟨w.heap.size, 2, none⟩ (.slice qa qn qc)) v ns := fun h hB => own_mono (own_set (own_set (own_set (own_set h hB) (by omega)) (by omega)) (by omega)) (by omega)
          exact ⟨⟨T P1.out (by omega), T P2.out (by omega), NE.out⟩, T Q.out (by omega), fun b hb => ⟨fun e => by have := QN.out b hb; have := PL1.out b e; omega, fun e => by have := QN.out b hb; have := PL2.out b e; omega⟩⟩
        · repeat (first | (with_reducible exact H2.out) | (with_reducible refine Below.setCell ?_ (by simp <;> omega) _))
end Go.Proofs.Ytnicjpfkiblimaa
