/-
  CheckOf of the specification: its walk.
-/
import Derived.Test.YtnicjpfkiblimaaChk9
set_option linter.all false
namespace Go.Proofs.Ytnicjpfkiblimaa
open Go.RowKit
def SRel (w : World) (A : Value) (c : List RCell) (l : List RNote) (gk : Nat) (s5 s6 s8 : Value) (wr : World) : Prop :=
  Below w.heap.size w wr ∧ wr.heap[w.heap.size]? = some (.cells #[.slice none 0 0, .slice none 0 0, .slice none 0 0] 29 (0, 0)) ∧
    ∃ k : Nat, k + gk = c.length ∧ s8 = .int .i64 (k : Int) ∧ Rows3 (w.heap.size + 1) wr s5 s6 A (dirT (fstN c l) k) (firT (fstN c l) k) []
def TRel (w : World) (d f : Value) (ds fs : List Int) (l : List RNote) (gk : Nat) (s7 s11 : Value) (wr : World) : Prop :=
  Below w.heap.size w wr ∧ wr.heap[w.heap.size]? = some (.cells #[.slice none 0 0, .slice none 0 0, .slice none 0 0] 29 (0, 0)) ∧
    ∃ k : Nat, k + gk = l.length ∧ s11 = .int .i64 (k : Int) ∧ Rows3 (w.heap.size + 1) wr d f s7 ds fs (actF l k)
theorem Rows3.alloc {B : Nat} {w : World} {d f a : Value} {ds fs ac : List Int} (h : Rows3 B w d f a ds fs ac) (o : Obj) : Rows3 B (w.alloc o) d f a ds fs ac := h.keep ((Below.refl _ _).alloc (Nat.le_refl _) _)
theorem lit0 (w : World) (B : Nat) (h : B ≤ w.heap.size) : OwnN B (w.alloc (.cells #[] 3)) (.slice (some ⟨w.heap.size, 0, none⟩) 0 0) [] := World.ownsRow_made w #[] 0 h (by unfold maxLen; omega) (by simp)
theorem lits (w : World) : Rows3 (w.heap.size + 1) ((((w.alloc (.cells #[.slice none 0 0, .slice none 0 0, .slice none 0 0] 29)).alloc (.cells #[] 3)).alloc (.cells #[] 3)).alloc (.cells #[] 3)) (.slice (some ⟨w.heap.size + 1, 0, none⟩) 0 0) (.slice (some ⟨w.heap.size + 2, 0, none⟩) 0 0) (.slice (some ⟨w.heap.size + 3, 0, none⟩) 0 0) [] [] [] := by
  have h0 : (w.alloc (.cells #[.slice none 0 0, .slice none 0 0, .slice none 0 0] 29)).heap.size = w.heap.size + 1 := by simp
  have h1 : ((w.alloc (.cells #[.slice none 0 0, .slice none 0 0, .slice none 0 0] 29)).alloc (.cells #[] 3)).heap.size = w.heap.size + 2 := by simp
  have h2 : (((w.alloc (.cells #[.slice none 0 0, .slice none 0 0, .slice none 0 0] 29)).alloc (.cells #[] 3)).alloc (.cells #[] 3)).heap.size = w.heap.size + 3 := by simp
  have l1 := lit0 (w.alloc (.cells #[.slice none 0 0, .slice none 0 0, .slice none 0 0] 29)) (w.heap.size + 1) (by omega)
  have l2 := lit0 ((w.alloc (.cells #[.slice none 0 0, .slice none 0 0, .slice none 0 0] 29)).alloc (.cells #[] 3)) (w.heap.size + 1) (by omega)
  have l3 := lit0 (((w.alloc (.cells #[.slice none 0 0, .slice none 0 0, .slice none 0 0] 29)).alloc (.cells #[] 3)).alloc (.cells #[] 3)) (w.heap.size + 1) (by omega)
  rw [h0] at l1
  rw [h1] at l2
  rw [h2] at l3
  exact ⟨⟨World.ownsRow.alloc (World.ownsRow.alloc l1 _) _, World.ownsRow.alloc l2 _, fun b h e => by simp [Value.ownBlock] at h e; omega⟩, l3, fun b h => ⟨fun e => by simp [Value.ownBlock] at h e; omega, fun e => by simp [Value.ownBlock] at h e; omega⟩⟩
set_option maxHeartbeats 16000000 in
set_option maxRecDepth 100000 in
theorem sCheckOf_any (v u : Value) (c : List RCell) (l : List RNote) (w : World) (h : Cells w v c) (h' : Notes w u l) :
    Calls Try.prog 7 #[v, u] w (CkRet w c l) := by
  have HC := hide h
  have HN := hide h'
  have HA := hide (((((Below.refl w.heap.size w).alloc (Nat.le_refl _) (.cells #[.slice none 0 0, .slice none 0 0, .slice none 0 0] 29)).alloc (by simp) (.cells #[] 3)).alloc (by simp; omega) (.cells #[] 3)).alloc (by simp; omega) (.cells #[] 3))
  have LT := hide (lits w)
  have Z0 := hide (blk_keep (blk_keep (blk_keep (blk_alloc w (.cells #[.slice none 0 0, .slice none 0 0, .slice none 0 0] 29)) (.cells #[] 3)) (.cells #[] 3)) (.cells #[] 3))
  obtain ⟨a, cap, rfl, hl, hcap, -⟩ := h
  obtain ⟨a', cap', rfl, hl', hcap', -⟩ := h'
  obtain ⟨i0, hi0, hz0, hz1, hz2⟩ := info_parts infoN
  go_enter Try.func7, Try.ntmps7
  go_wp2_with fail
  refine (usable_any _ _ c l _ (HC.out.keep HA.out) (HN.out.keep HA.out)).mono ?_
  rintro e1 w1 ⟨b, rfl, hb, hb1⟩
  have H1 : Hid (Below w.heap.size w w1) := HA.out.trans (hb1.mono HA.out.size)
  have Z1 := hide (blk_own hb1 Z0.out)
  have L1 := hide (LT.out.keep hb1)
  have m1 : w.heap.size < w1.heap.size := lt_block Z1.out
  have HB := hide hb
  clear hb1 HA hb LT Z0
  cases b with
  | false =>
    have NU : Hid (¬ usP c l) := fun hu => by have := HB.out.2 hu; cases this
    have z0 : w1.cell? ⟨w.heap.size, 0, none⟩ = some (.slice none 0 0) := by rw [cell_block Z1.out]; rfl
    have z1 : w1.cell? ⟨w.heap.size, 1, none⟩ = some (.slice none 0 0) := by rw [cell_block Z1.out]; rfl
    have z2 : w1.cell? ⟨w.heap.size, 2, none⟩ = some (.slice none 0 0) := by rw [cell_block Z1.out]; rfl
    have f0 := froz_block Z1.out 0
    have f1 := froz_block Z1.out 1
    have f2 := froz_block Z1.out 2
    have B0 := set_block Z1.out 0 (.slice none 0 0)
    have B1 := set_block B0 1 (.slice none 0 0)
    have B2 := set_block B1 2 (.slice none 0 0)
    have s0 := cell_block B2 0
    have s1 := cell_block B2 1
    have s2 := cell_block B2 2
    go_wp2_with fail
    all_goals go_tidy
    refine ⟨rfl, .agg #[.slice none 0 0, .slice none 0 0, .slice none 0 0], by simp [results, Try.results7, go_sem, s0, s1, s2], ckret_no NU.out ?_⟩
    repeat (first | (with_reducible exact H1.out) | (with_reducible refine Below.setCell ?_ (by simp) _))
  | true =>
    have US : Hid (usP c l) := HB.out.1 rfl
    have hcl : c.length ≤ 6 := US.out.1.1.2
    have hll : l.length ≤ 20 := US.out.1.2
    clear HB
    go_wp2_with fail
    go_loopg [5, 6, 8] c.length (fun gk s5 s6 s8 wr => SRel w (.slice (some ⟨w.heap.size + 3, 0, none⟩) 0 0) c l gk s5 s6 s8 wr)
    case atStart => exact ⟨H1.out, Z1.out, 0, by omega, rfl, L1.out⟩
    case round =>
      obtain ⟨hbw, hz, k, hk, rfl, hbox⟩ := hrel
      have HW := hide hbw
      have HZ := hide hz
      have HX := hide hbox
      have C := hide (HC.out.keep hbw)
      have N := hide (HN.out.keep hbw)
      have hgw : w.heap.size < wr.heap.size := lt_block hz
      clear hbw hz hbox L1
      by_cases hlt : k < c.length
      · obtain ⟨b, off, rfl, e0, e1⟩ : ∃ b off, a = some ⟨b, off, none⟩ ∧ wr.cell? ⟨b, off + k * 2, none⟩ = some (.int .i64 c[k].num) ∧ wr.cell? ⟨b, off + k * 2 + 1, none⟩ = some (.int .i64 c[k].lsn) := by
          obtain ⟨a2, cap2, hv, -, -, hd⟩ := C.out
          injection hv with ha _ _
          subst ha
          obtain ⟨b, off, rfl, hbb, hcell⟩ := hd.resolve_left (by rintro rfl; simp at hlt)
          exact ⟨b, off, rfl, (hcell k hlt).1, (hcell k hlt).2⟩
        have HF0 : Hid (fstN c l k = lo (hitF c l k) 0 l.length) := rfl
        have DN := hide (fun h => dirT_no (F := fstN c l) (k := k) h)
        have FN := hide (fun h => firT_no (F := fstN c l) (k := k) h)
        have DY := hide (fun h => dirT_yes (F := fstN c l) (k := k) h)
        have FY := hide (fun h => firT_yes (F := fstN c l) (k := k) h)
        have dl := (dirT_len (fstN c l) k).1
        have fl := Nat.le_trans (Nat.le_of_eq (dirT_len (fstN c l) k).2) dl
        have HI := hide (fun i (hi : i < l.length) => hitF_at (c := c) (l := l) (t := k) hlt hi)
        have LL := hide (fun (i : Nat) => lo_le (hitF c l k) (l.length - i) i)
        obtain ⟨X, hX⟩ : ∃ X, X = c[k] := ⟨_, rfl⟩
        rw [← hX] at e0 e1 HI
        clear hX e0
        have K1 := hide hk
        clear hk C
        obtain ⟨G, hG⟩ : ∃ G, G = gk := ⟨_, rfl⟩
        go_wp2_with fail
        rename World => WO
        go_loopg [9, 10] l.length (fun gk s9 s10 wr => wr = WO ∧ gk ≤ l.length ∧ s9 = .int .i64 ((lo (hitF c l k) gk (l.length - gk) : Nat) : Int) ∧ s10 = .int .i64 ((gk : Int) - 1))
        case atStart => exact ⟨rfl, Nat.le_refl _, by rw [Nat.sub_self]; rfl, rfl⟩
        case round =>
          obtain ⟨rfl, hgl, rfl, rfl⟩ := hrel
          by_cases hg0 : gk = 0
          · subst hg0
            rw [Nat.sub_zero]
            by_cases hq : lo (hitF c l k) 0 l.length = 0
            · have HQ := hide hq
              rw [hq]
              clear HI LL
              go_wp2_with fail
              go_roundg (G - 1)
              case measure => have := K1.out; omega
              case rel => exact ⟨HW.out, HZ.out, k + 1, by have := K1.out; omega, by go_num, by rw [DN.out (HF0.out.trans HQ.out), FN.out (HF0.out.trans HQ.out)]; exact HX.out⟩
            · obtain ⟨m, hm⟩ : ∃ m, lo (hitF c l k) 0 l.length = m := ⟨_, rfl⟩
              have hm20 : m ≤ 20 := by have := LL.out 0; rw [Nat.sub_zero, hm] at this; omega
              have HM := hide (HF0.out.trans hm)
              rw [hm]
              rw [hm] at hq
              have hm1 : 0 < m := Nat.pos_of_ne_zero hq
              have DD : Hid (dirT (fstN c l) (k + 1) = dirT (fstN c l) k ++ [(k : Int)]) := DY.out (by rw [HM.out]; omega)
              have FF : Hid (firT (fstN c l) (k + 1) = firT (fstN c l) k ++ [(m : Int)]) := by have := FY.out (by rw [HM.out]; omega); rw [HM.out] at this; exact this
              clear DY FY DN FN HM hm HI LL N HF0
              generalize dirT (fstN c l) k = D0 at *
              generalize firT (fstN c l) k = F0 at *
              go_wp2_with (at_builtin; refine wpList_append_lies _ rfl (.tmp 62) (.tmp 64) 27 rfl (w.heap.size + 1) 3 i0 _ 1 8 Try.underlying27 hi0 hz0 hz1 hz2 rfl (by decide) _ _ _ rfl (World.ownsRow.alloc HX.out.1.1 _) ⟨_, 0, none⟩ 1 1 [.int .i64 (k : Int)] rfl rfl ?c1 ?h1 (by decide) ?h63 ?hb ?hbase _ rfl ?next)
              case c1 => exact World.news_of_block (cs := #[.int .i64 (k : Int)]) (blk_at (by simp) _)
              case h1 => intro u hu; simp at hu; subst hu; rfl
              case h63 => unfold maxLen; omega
              case hb => omega
              case hbase => simp; omega
              case next =>
                intro g1 cp1 w3 hown hgrow hat hlt3
                have R3 : Hid (Rows3 (w.heap.size + 1) w3 (.slice (some ⟨g1, 0, none⟩) (D0.length + 1) cp1) _ _ (dirT (fstN c l) (k + 1)) F0 []) := (HX.out.alloc _).push1 (by rw [DD.out]; exact own_app hown rfl) hgrow hat (by simp)
                have W3 : Hid (Below w.heap.size w w3) := (HW.out.alloc (by omega) _).grown hgrow (by simp; omega) (fun q hq => by have := HX.out.lt.1 q hq; omega)
                have Z3 : Hid (w3.heap[w.heap.size]? = some (.cells #[.slice none 0 0, .slice none 0 0, .slice none 0 0] 29 (0, 0))) := (hgrow.block _ (by simp; omega) (fun hq => by have := HX.out.lt.1 _ hq.symm; omega)).trans (blk_keep HZ.out _)
                have hB3 : w.heap.size < w3.heap.size := lt_block Z3.out
                clear hown hgrow hat HX HW HZ
                go_wp2_with (at_builtin; refine wpList_append_lies _ rfl (.tmp 66) (.tmp 68) 27 rfl (w.heap.size + 1) 3 i0 _ 1 8 Try.underlying27 hi0 hz0 hz1 hz2 rfl (by decide) _ _ _ rfl (World.ownsRow.alloc R3.out.1.2.1 _) ⟨_, 0, none⟩ 1 1 [.int .i64 (m : Int)] rfl rfl ?c1 ?h1 (by decide) ?h63 ?hb ?hbase _ rfl ?next)
                case c1 => exact World.news_of_block (cs := #[.int .i64 (m : Int)]) (blk_at (by simp) _)
                case h1 => intro u hu; simp at hu; subst hu; rfl
                case h63 => unfold maxLen; omega
                case hb => omega
                case hbase => simp; omega
                case next =>
                  intro g2 cp2 w4 hown hgrow hat hlt4
                  have R4 : Hid (Rows3 (w.heap.size + 1) w4 _ (.slice (some ⟨g2, 0, none⟩) (F0.length + 1) cp2) _ (dirT (fstN c l) (k + 1)) (firT (fstN c l) (k + 1)) []) := (R3.out.alloc _).push2 (by rw [FF.out]; exact own_app hown rfl) hgrow hat (by simp)
                  have W4 : Hid (Below w.heap.size w w4) := (W3.out.alloc (by omega) _).grown hgrow (by simp; omega) (fun q hq => by have := R3.out.lt.2.1 q hq; omega)
                  have Z4 : Hid (w4.heap[w.heap.size]? = some (.cells #[.slice none 0 0, .slice none 0 0, .slice none 0 0] 29 (0, 0))) := (hgrow.block _ (by simp; omega) (fun hq => by have := R3.out.lt.2.1 _ hq.symm; omega)).trans (blk_keep Z3.out _)
                  clear hown hgrow hat
                  go_wp2_with fail
                  go_roundg (G - 1)
                  case measure => have := K1.out; omega
                  case rel => exact ⟨W4.out, Z4.out, k + 1, by have := K1.out; omega, by go_num, R4.out⟩
          · obtain ⟨j, rfl⟩ : ∃ j, gk = j + 1 := ⟨gk - 1, by omega⟩
            have hjl : j < l.length := by omega
            have hcast : ((j + 1 : Nat) : Int) - 1 = (j : Int) := by omega
            rw [hcast]
            obtain ⟨b', off', rfl, q0, q1, q2, q3, q4⟩ : ∃ b' off', a' = some ⟨b', off', none⟩ ∧ NoteAt wr b' (off' + j * 5) l[j] := by
              obtain ⟨a2, cap2, hv, -, -, hd⟩ := N.out
              injection hv with ha _ _
              subst ha
              obtain ⟨b, off, rfl, hbb, hcell⟩ := hd.resolve_left (by rintro rfl; simp at hjl)
              exact ⟨b, off, rfl, hcell j hjl⟩
            have HIT := hide (HI.out j hjl)
            obtain ⟨s, hs⟩ : ∃ s, l.length - (j + 1) = s := ⟨_, rfl⟩
            have hs2 : l.length - j = s + 1 := by omega
            have YES := hide (fun h => lo_yes (p := hitF c l k) (i := j) (m := s) h)
            have NO := hide (fun h => lo_no (p := hitF c l k) (i := j) (m := s) h)
            have HS2 := hide hs2
            have lle := lo_le (hitF c l k) s (j + 1)
            rw [hs]
            obtain ⟨m, hm⟩ : ∃ m, lo (hitF c l k) (j + 1) s = m := ⟨_, rfl⟩
            rw [hm]
            rw [hm] at NO lle
            have hm20 : m ≤ 20 := by omega
            clear hs hs2 hm HI LL lle
            generalize l[j] = n at *
            obtain ⟨nf, hnf⟩ : ∃ nf, n.fin = nf := ⟨_, rfl⟩
            rw [hnf] at q0
            have HNF := hide hnf
            clear hnf
            cases nf with
            | true =>
              have HH : Hid (hitF c l k j = false) := by unfold Hid; rw [HIT.out]; simp [hit, HNF.out]
              go_wp2_with fail
              go_roundg j
              case measure => omega
              case rel => exact ⟨rfl, by omega, by rw [HS2.out, NO.out HH.out], by go_num⟩
            | false =>
              by_cases ht : n.thing = (k : Int)
              · have dt : (n.thing == (k : Int)) = true := by rw [beq_iff_eq]; exact ht
                have HT := hide ht
                by_cases hlsn : X.lsn < (j : Int) + 1
                · have dl2 : decide (X.lsn < (j : Int) + 1) = true := decide_eq_true hlsn
                  have HH : Hid (hitF c l k j = true) := by unfold Hid; rw [HIT.out]; simp [hit, HNF.out, HT.out, hlsn]
                  go_wp2_with fail
                  go_roundg j
                  case measure => omega
                  case rel => exact ⟨rfl, by omega, by rw [HS2.out, YES.out HH.out]; go_num, by go_num⟩
                · have dl2 : decide (X.lsn < (j : Int) + 1) = false := decide_eq_false hlsn
                  have HH : Hid (hitF c l k j = false) := by unfold Hid; rw [HIT.out]; simp [hit, dl2]
                  have HLS := hide (Int.not_lt.1 hlsn)
                  clear hlsn
                  go_wp2_with fail
                  go_roundg j
                  case measure => omega
                  case rel => exact ⟨rfl, by omega, by rw [HS2.out, NO.out HH.out], by go_num⟩
              · have dt : (n.thing == (k : Int)) = false := by rw [beq_eq_false_iff_ne]; exact ht
                have HH : Hid (hitF c l k j = false) := by unfold Hid; rw [HIT.out]; simp [hit, dt]
                have HT := hide ht
                clear ht
                go_wp2_with fail
                go_roundg j
                case measure => omega
                case rel => exact ⟨rfl, by omega, by rw [HS2.out, NO.out HH.out], by go_num⟩
      · have hkl : k = c.length := by omega
        subst hkl
        clear C
        obtain ⟨D0, hD0⟩ : ∃ D, dirT (fstN c l) c.length = D := ⟨_, rfl⟩
        obtain ⟨F0, hF0⟩ : ∃ F, firT (fstN c l) c.length = F := ⟨_, rfl⟩
        rw [hD0, hF0] at HX
        have HD := hide hD0
        have HFF := hide hF0
        clear hD0 hF0
        go_wp2_with fail
        go_loopg [7, 11] l.length (fun gk s7 s11 wr => TRel w u5 u6 D0 F0 l gk s7 s11 wr)
        case atStart => exact ⟨HW.out, HZ.out, 0, by omega, rfl, HX.out⟩
        case round =>
          clear HW HZ HX N hgw
          obtain ⟨hbw, hz, i, hi, rfl, hbox⟩ := hrel
          have HW := hide hbw
          have HZ := hide hz
          have HX := hide hbox
          have N := hide (HN.out.keep hbw)
          have hgw : w.heap.size < wr.heap.size := lt_block hz
          have alen := actF_len l i
          clear hbw hz hbox
          by_cases hli : i < l.length
          · obtain ⟨b', off', rfl, q0, q1, q2, q3, q4⟩ : ∃ b' off', a' = some ⟨b', off', none⟩ ∧ NoteAt wr b' (off' + i * 5) l[i] := by
              obtain ⟨a2, cap2, hv, -, -, hd⟩ := N.out
              injection hv with ha _ _
              subst ha
              obtain ⟨b, off, rfl, hbb, hcell⟩ := hd.resolve_left (by rintro rfl; simp at hli)
              exact ⟨b, off, rfl, hcell i hli⟩
            have YES := hide (fun h => actF_yes (l := l) hli h)
            have NO := hide (fun h => actF_no (l := l) hli h)
            obtain ⟨A0, hA0⟩ : ∃ A, actF l i = A := ⟨_, rfl⟩
            rw [hA0] at HX YES NO alen
            clear hA0
            generalize l[i] = n at *
            have EN := hide (ended_any _ l n.owner wr N.out)
            have II := hide (isIn_any _ A0 n.owner wr HX.out.2.1.nums)
            clear N
            obtain ⟨nf, hnf⟩ : ∃ nf, n.fin = nf := ⟨_, rfl⟩
            rw [hnf] at q0
            have HNF := hide hnf
            clear hnf
            cases nf with
            | true =>
              have HH : Hid (actOne l A0 n = false) := by unfold Hid; simp [actOne, HNF.out]
              go_wp2_with fail
              go_roundg (gk - 1)
              case measure => omega
              case rel => exact ⟨HW.out, HZ.out, i + 1, by omega, by go_num, by rw [NO.out HH.out]; exact HX.out⟩
            | false =>
              obtain ⟨eb, heb⟩ : ∃ eb, endB l n.owner = eb := ⟨_, rfl⟩
              rw [heb] at EN
              have HEB := hide heb
              clear heb
              cases eb with
              | true =>
                have HH : Hid (actOne l A0 n = false) := by unfold Hid; simp [actOne, HEB.out]
                go_wp2_with fail
                refine EN.out.mono ?_
                rintro e1 w2 ⟨rfl, rfl⟩
                go_wp2_with fail
                go_roundg (gk - 1)
                case measure => omega
                case rel => exact ⟨HW.out, HZ.out, i + 1, by omega, by go_num, by rw [NO.out HH.out]; exact HX.out⟩
              | false =>
                obtain ⟨ib, hib⟩ : ∃ ib, A0.contains n.owner = ib := ⟨_, rfl⟩
                rw [hib] at II
                have HIB := hide hib
                clear hib
                cases ib with
                | true =>
                  have HH : Hid (actOne l A0 n = false) := by unfold Hid; unfold actOne; rw [HIB.out]; simp
                  go_wp2_with fail
                  refine EN.out.mono ?_
                  rintro e1 w2 ⟨rfl, rfl⟩
                  go_wp2_with fail
                  refine II.out.mono ?_
                  rintro e1 w2 ⟨rfl, rfl⟩
                  go_wp2_with fail
                  go_roundg (gk - 1)
                  case measure => omega
                  case rel => exact ⟨HW.out, HZ.out, i + 1, by omega, by go_num, by rw [NO.out HH.out]; exact HX.out⟩
                | false =>
                  have HH : Hid (actOne l A0 n = true) := by unfold Hid; unfold actOne; rw [HIB.out, HEB.out, HNF.out]; rfl
                  have AA : Hid (actF l (i + 1) = A0 ++ [n.owner]) := YES.out HH.out
                  clear YES NO HH
                  go_wp2_with fail
                  refine EN.out.mono ?_
                  rintro e1 w2 ⟨rfl, rfl⟩
                  go_wp2_with fail
                  refine II.out.mono ?_
                  rintro e1 w2 ⟨rfl, rfl⟩
                  clear EN II
                  go_wp2_with (at_builtin; refine wpList_append_lies _ rfl (.tmp 102) (.tmp 108) 27 rfl (w.heap.size + 1) 3 i0 _ 1 8 Try.underlying27 hi0 hz0 hz1 hz2 rfl (by decide) _ _ _ rfl (World.ownsRow.alloc HX.out.2.1 _) ⟨_, 0, none⟩ 1 1 [.int .i64 (n.owner)] rfl rfl ?c1 ?h1 (by decide) ?h63 ?hb ?hbase _ rfl ?next)
                  case c1 => exact World.news_of_block (cs := #[.int .i64 (n.owner)]) (blk_at (by simp) _)
                  case h1 => intro u hu; simp at hu; subst hu; rfl
                  case h63 => unfold maxLen; omega
                  case hb => omega
                  case hbase => simp; omega
                  case next =>
                    intro g1 cp1 w3 hown hgrow hat hlt3
                    have R3 : Hid (Rows3 (w.heap.size + 1) w3 _ _ (.slice (some ⟨g1, 0, none⟩) (A0.length + 1) cp1) D0 F0 (actF l (i + 1))) := (HX.out.alloc _).push3 (by rw [AA.out]; exact own_app hown rfl) hgrow hat (by simp)
                    have W3 : Hid (Below w.heap.size w w3) := (HW.out.alloc (by omega) _).grown hgrow (by simp; omega) (fun q hq => by have := HX.out.lt.2.2 q hq; omega)
                    have Z3 : Hid (w3.heap[w.heap.size]? = some (.cells #[.slice none 0 0, .slice none 0 0, .slice none 0 0] 29 (0, 0))) := (hgrow.block _ (by simp; omega) (fun hq => by have := HX.out.lt.2.2 _ hq.symm; omega)).trans (blk_keep HZ.out _)
                    clear hown hgrow hat
                    go_wp2_with fail
                    go_roundg (gk - 1)
                    case measure => omega
                    case rel => exact ⟨W3.out, Z3.out, i + 1, by omega, by go_num, R3.out⟩
          · have hil : i = l.length := by omega
            subst hil
            clear N
            have HS := hide (sorted_any _ _ _ wr HX.out.2.1 (by omega))
            have US2 := hide (fun (r : List Int) hp hs => act_sorted (l := l) (r := r) (fun i hi => (US.out.2.2 i hi).1) hp hs)
            go_wp2_with fail
            refine HS.out.mono ?_
            rintro e1 w2 ⟨q, r, rfl, hq, hp, hs, hb2⟩
            have hr := US2.out r hp hs
            subst hr
            obtain ⟨⟨o1, o2, hne⟩, -⟩ := HX.out
            obtain ⟨qa, qn, qc, rfl⟩ := own_slice hq
            obtain ⟨da, dn, dc, rfl⟩ := own_slice o1
            obtain ⟨fa, fn, fc, rfl⟩ := own_slice o2
            have H2 : Hid (Below w.heap.size w w2) := HW.out.trans (hb2.mono HW.out.size)
            have Z2 := hide (blk_own hb2 HZ.out)
            have P1 := hide (o1.keep hb2)
            have P2 := hide (o2.keep hb2)
            have Q := hide hq
            have NE := hide hne
            have QN : Hid (∀ b, (Value.slice qa qn qc).ownBlock = some b → wr.heap.size ≤ b) := fun b hb => (World.ownsRow.lt hq b hb).1
            have PL1 : Hid (∀ b, (Value.slice da dn dc).ownBlock = some b → b < wr.heap.size) := fun b hb => (World.ownsRow.lt o1 b hb).2
            have PL2 : Hid (∀ b, (Value.slice fa fn fc).ownBlock = some b → b < wr.heap.size) := fun b hb => (World.ownsRow.lt o2 b hb).2
            clear hq hp hs hb2 o1 o2 hne HX HS US2 HZ HW
            have z0 : w2.cell? ⟨w.heap.size, 0, none⟩ = some (.slice none 0 0) := by rw [cell_block Z2.out]; rfl
            have z1 : w2.cell? ⟨w.heap.size, 1, none⟩ = some (.slice none 0 0) := by rw [cell_block Z2.out]; rfl
            have z2 : w2.cell? ⟨w.heap.size, 2, none⟩ = some (.slice none 0 0) := by rw [cell_block Z2.out]; rfl
            have g0 := froz_block Z2.out 0
            have g1 := froz_block Z2.out 1
            have g2 := froz_block Z2.out 2
            have S3 := set_block (set_block (set_block Z2.out 0 (.slice da dn dc)) 1 (.slice fa fn fc)) 2 (.slice qa qn qc)
            have s0 := cell_block S3 0
            have s1 := cell_block S3 1
            have s2 := cell_block S3 2
            go_wp2_with fail
            all_goals go_tidy
            refine ⟨rfl, .agg #[.slice da dn dc, .slice fa fn fc, .slice qa qn qc], by simp [results, Try.results7, go_sem, s0, s1, s2], _, _, _, _, _, _, rfl, ⟨fun _ => ⟨HD.out.symm, HFF.out.symm, rfl⟩, fun h => absurd US.out h⟩, ?_, ?_⟩
            · have T : ∀ {B : Nat} {v : Value} {ns : List Int}, OwnN B w2 v ns → w.heap.size < B → OwnN w.heap.size (((w2.setCell ⟨w.heap.size, 0, none⟩ (.slice da dn dc)).setCell ⟨w.heap.size, 1, none⟩ (.slice fa fn fc)).setCell ⟨w.heap.size, 2, none⟩ (.slice qa qn qc)) v ns := fun h hB => own_mono (own_set (own_set (own_set h hB) (by omega)) (by omega)) (by omega)
              exact ⟨⟨T P1.out (by omega), T P2.out (by omega), NE.out⟩, T Q.out (by omega), fun b hb => ⟨fun e => by have := QN.out b hb; have := PL1.out b e; omega, fun e => by have := QN.out b hb; have := PL2.out b e; omega⟩⟩
            · repeat (first | (with_reducible exact H2.out) | (with_reducible refine Below.setCell ?_ (by simp <;> omega) _))
end Go.Proofs.Ytnicjpfkiblimaa
