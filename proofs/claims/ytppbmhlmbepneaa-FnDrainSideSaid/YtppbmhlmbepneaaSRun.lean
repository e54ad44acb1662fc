/-
  runBuild, RowsAfter, SideOf of the specification.
-/
import Derived.Test.YtppbmhlmbepneaaSChange
import Derived.Test.YtppbmhlmbepneaaIRun
set_option linter.all false
namespace Go.Proofs.Ytppbmhlmbepneaa
open Go.RowKit
theorem own_lit_M {W : World} {b B : Nat} (hb : b = W.heap.size) (hB : B ≤ W.heap.size) : OwnM B (W.alloc (.cells #[] 42)) (.slice (some ⟨b, 0, none⟩) 0 0) [] := own_lit_at hb hB
theorem own_lit_I {W : World} {b B : Nat} (hb : b = W.heap.size) (hB : B ≤ W.heap.size) : OwnI B (W.alloc (.cells #[] 29)) (.slice (some ⟨b, 0, none⟩) 0 0) [] := own_lit_at hb hB
/-- what the specification's runBuild hands back -/
def SRunRet (w : World) (b : BS) (e : Ending) (w' : World) : Prop := ∃ vr vi vs, e = .returned (.agg #[vr, vi, vs, .int .i64 b.pos]) ∧ (∃ g, RowsB w.heap.size g w' vr vi vs b.rows (ordL b.items) b.side) ∧ Below w.heap.size w w'
theorem RowsB.mono {B B' g : Nat} {w : World} {vr vi vs : Value} {rs its : List Itm} {sd : List RMove} (h : RowsB B g w vr vi vs rs its sd) (hb : B' ≤ B) : RowsB B' g w vr vi vs rs its sd :=
  ⟨own_mono h.r hb, own_mono h.i hb, own_mono h.s hb, h.rg, h.ig, h.sg, h.ri, h.rs, h.is⟩
theorem RowsB.set {B g k j : Nat} {w : World} {vr vi vs : Value} {rs its : List Itm} {sd : List RMove} (h : RowsB B g w vr vi vs rs its sd) (hk : k < B) (v : Value) : RowsB B g (w.setCell ⟨k, j, none⟩ v) vr vi vs rs its sd := by
  have hn : ∀ {size n : Nat} {e : TypeId} {v : Value} {xs : List Value}, w.ownsRow B e size v n xs → v.ownBlock ≠ some k := fun h e => by have := (World.ownsRow.lt h _ e).1; omega
  exact ⟨own_by h.r (grown_setCell _ _ _ _) (hn h.r), own_by h.i (grown_setCell _ _ _ _) (hn h.i), own_by h.s (grown_setCell _ _ _ _) (hn h.s), h.rg, h.ig, h.sg, h.ri, h.rs, h.is⟩
theorem RowsB.rebox {B g : Nat} {w : World} {vr vi vs : Value} {rs its : List Itm} {sd : List RMove} (h : RowsB B g w vr vi vs rs its sd) (o : Obj) : RowsB B w.heap.size (w.alloc o) vr vi vs rs its sd := by
  have hlt : ∀ {size n : Nat} {e : TypeId} {v : Value} {xs : List Value}, w.ownsRow B e size v n xs → v.ownBlock ≠ some w.heap.size := fun h e => by have := (World.ownsRow.lt h _ e).2; omega
  exact ⟨h.r.alloc _, h.i.alloc _, h.s.alloc _, hlt h.r, hlt h.i, hlt h.s, h.ri, h.rs, h.is⟩
theorem BoxS.start {B : Nat} {w : World} {l : List Itm} {g c : Nat} (h : OwnI B w (.slice (some ⟨g, 0, none⟩) l.length c) l) (hB : B ≤ w.heap.size) :
    BoxS B (w.heap.size + 2) (((w.alloc (.cells #[] 29)).alloc (.cells #[] 42)).alloc (.cells #[.slice (some ⟨g, 0, none⟩) l.length c, .slice (some ⟨w.heap.size, 0, none⟩) 0 0, .slice (some ⟨w.heap.size + 1, 0, none⟩) 0 0, .int .i64 (-1)] 61)) ⟨l, -1, [], []⟩ := by
  have hg := (World.ownsRow.lt h g rfl).2
  have hI : OwnI B (w.alloc (.cells #[] 29)) (.slice (some ⟨w.heap.size, 0, none⟩) 0 0) [] := own_lit_I rfl hB
  have hM : OwnM B ((w.alloc (.cells #[] 29)).alloc (.cells #[] 42)) (.slice (some ⟨w.heap.size + 1, 0, none⟩) 0 0) [] := own_lit_M (by simp) (by simp; omega)
  refine ⟨by omega, _, _, _, by have := blk_alloc ((w.alloc (.cells #[] 29)).alloc (.cells #[] 42)) (.cells #[.slice (some ⟨g, 0, none⟩) l.length c, .slice (some ⟨w.heap.size, 0, none⟩) 0 0, .slice (some ⟨w.heap.size + 1, 0, none⟩) 0 0, .int .i64 (-1)] 61); simpa using this, ((h.alloc _).alloc _).alloc _, (hI.alloc _).alloc _, hM.alloc _, ?_, ?_, ?_, ?_, ?_, ?_⟩
  · intro e; simp [Value.ownBlock] at e; omega
  · intro e; simp [Value.ownBlock] at e
  · intro e; simp [Value.ownBlock] at e
  · intro k hk e; simp [Value.ownBlock] at hk e; omega
  · intro k hk e; simp [Value.ownBlock] at hk e; omega
  · intro k hk e; simp [Value.ownBlock] at hk e; omega
set_option maxHeartbeats 16000000 in
set_option maxRecDepth 100000 in
theorem srunBuild_any (v u : Value) (l : List Itm) (ms : List RMove) (w : World) (h : Itms w v l) (hnil : NilOk v) (h' : Moves w u ms) (hv : vMoves l ms) :
    Calls Try.prog 52 #[v, u] w (SRunRet w (bsAt l ms ms.length)) := by
  have HI := hide h
  have HNL := hide hnil
  have HV := hide hv
  have hl30 := hv.1.1.1
  obtain ⟨a, cap, rfl, hl, hcap, -⟩ := h
  obtain ⟨ua, uc, rfl, hul, huc, hd⟩ := h'
  have HB1 := hide (below_box2 w (.cells #[.slice none 0 0, .slice none 0 0, .slice none 0 0, .int .i64 0] 61) (.cells #[] 29))
  have HI1 := hide (HI.out.keep HB1.out)
  have HZ1 : Hid (((w.alloc (.cells #[.slice none 0 0, .slice none 0 0, .slice none 0 0, .int .i64 0] 61)).alloc (.cells #[] 29)).heap[w.heap.size]? = some (.cells #[.slice none 0 0, .slice none 0 0, .slice none 0 0, .int .i64 0] 61 (0, 0))) := blk_keep (blk_alloc w _) _
  clear hnil hv
  go_enter Try.func52, Try.ntmps52
  go_wp2_with (at_builtin; refine wpList_copyI rfl (.tmp 7) (.tmp 8) rfl (w.heap.size + 1) (w.heap.size + 1) rfl (own_lit_at (by simp) (by simp)) _ l rfl HI1.out HNL.out (by omega) (by simp) ?next)
  case next =>
    intro g1 cap1 w1 ho hg
    have H1 : Hid (Below w.heap.size w w1) := HB1.out.grown hg (by simp; omega) (fun q hq => by injection hq with hq; omega)
    have HZ : Hid (w1.heap[w.heap.size]? = some (.cells #[.slice none 0 0, .slice none 0 0, .slice none 0 0, .int .i64 0] 61 (0, 0))) := (hg.block w.heap.size (by simp; omega) (fun hq => by injection hq with hq; omega)).trans HZ1.out
    have hz1 := lt_block HZ.out
    have HX := hide (BoxS.start ho (by omega))
    obtain ⟨o3, ho3⟩ : ∃ o3 : Obj, o3 = (.cells #[.slice (some ⟨g1, 0, none⟩) l.length cap1, .slice (some ⟨w1.heap.size, 0, none⟩) 0 0, .slice (some ⟨w1.heap.size + 1, 0, none⟩) 0 0, .int .i64 (-1)] 61) := ⟨_, rfl⟩
    have H2 : Hid (Below w.heap.size w (((w1.alloc (.cells #[] 29)).alloc (.cells #[] 42)).alloc (.cells #[.slice (some ⟨g1, 0, none⟩) l.length cap1, .slice (some ⟨w1.heap.size, 0, none⟩) 0 0, .slice (some ⟨w1.heap.size + 1, 0, none⟩) 0 0, .int .i64 (-1)] 61))) := ((H1.out.alloc H1.out.size _).alloc (by simp; omega) _).alloc (by simp; omega) _
    have HZ2 : Hid ((((w1.alloc (.cells #[] 29)).alloc (.cells #[] 42)).alloc (.cells #[.slice (some ⟨g1, 0, none⟩) l.length cap1, .slice (some ⟨w1.heap.size, 0, none⟩) 0 0, .slice (some ⟨w1.heap.size + 1, 0, none⟩) 0 0, .int .i64 (-1)] 61)).heap[w.heap.size]? = some (.cells #[.slice none 0 0, .slice none 0 0, .slice none 0 0, .int .i64 0] 61 (0, 0))) := blk_keep (blk_keep (blk_keep HZ.out _) _) _
    clear ho hg HI1 HZ1 HB1 ho3 o3
    go_wp2_with fail
    go_loopg [6] ms.length (fun gk sk wr => Below w.heap.size w wr ∧ wr.heap[w.heap.size]? = some (.cells #[.slice none 0 0, .slice none 0 0, .slice none 0 0, .int .i64 0] 61 (0, 0)) ∧ ∃ k : Nat, k + gk = ms.length ∧ sk = .int .i64 (k : Int) ∧ BoxS (w.heap.size + 1) (w1.heap.size + 2) wr (bsAt l ms k))
    case atStart => exact ⟨H2.out, HZ2.out, 0, by omega, rfl, HX.out⟩
    case round =>
      clear HX H1 H2 HZ2 HZ
      obtain ⟨hbw, hzw, k, hk, rfl, hbx⟩ := hrel
      have HW := hide hbw
      have HX := hide hbx
      have HZ := hide hzw
      clear hbx hzw
      generalize w1.heap.size + 2 = GG at *
      by_cases hlt : k < ms.length
      · obtain ⟨b, off, rfl, hbb, hcell⟩ := hd.resolve_left (by rintro rfl; simp at hlt)
        have hbl := Nat.lt_of_lt_of_le hbb hbw.size
        have E := hide ((hcell k hlt).keep hbw)
        have HIV := hide (HV.out.inv k (by omega))
        have HR0 := hide (bsAt_rows l ms k (by omega))
        have HS := hide (bsAt_s (l := l) hlt)
        have hsd := (side_len l ms k (by omega)).1
        have hpl := HV.out.1.2
        have hrl := rows_len HV.out k (by omega)
        obtain ⟨m, hm⟩ : ∃ m, ms[k] = m := ⟨_, rfl⟩
        rw [hm] at E HS
        clear hcell hd hbw hm
        obtain ⟨B1, hB1⟩ : ∃ B1, bsAt l ms (k + 1) = B1 := ⟨_, rfl⟩
        obtain ⟨B0, hB0⟩ : ∃ B0, bsAt l ms k = B0 := ⟨_, rfl⟩
        have HB1 := hide hB1
        rw [hB0] at HIV HR0 HS HX hsd
        rw [hB1] at HS
        clear hB1 hB0
        have hrl0 : B0.rows.length ≤ 30 := by rw [HR0.out]; exact hrl
        clear hrl
        obtain ⟨sc, gn, row, key⟩ := m
        obtain ⟨e0, e1, e2, e3⟩ := E.out
        simp only at e0 e1 e2 e3
        have hbs := lt_block HZ.out
        cases sc with
        | true =>
          have HC := hide (sscan_any (w.heap.size + 1) GG B0 wr HX.out HIV.out)
          have HE : Hid (B1 = scanB B0) := HS.out
          clear HS
          go_wp2_with fail
          refine HC.out.mono ?_
          rintro e w2 ⟨rfl, hbx, hb⟩
          have H2 : Hid (Below w.heap.size w w2) := HW.out.trans (hb.mono (by omega))
          have HZ2 := hide ((hb.block w.heap.size (by omega)).trans HZ.out)
          rw [← HE.out] at hbx
          have HX2 := hide hbx
          clear hb hbx HC
          go_wp2_with fail
          go_roundg (gk - 1)
          case measure => omega
          case rel => exact ⟨H2.out, HZ2.out, k + 1, by omega, by go_num, by rw [HB1.out]; exact HX2.out⟩
        | false =>
          have HC := hide (schange_any (w.heap.size + 1) GG B0 gn row key wr HX.out HIV.out (by omega) (by omega))
          have HE : Hid (B1 = changeB B0 ⟨false, gn, row, key⟩) := HS.out
          clear HS
          go_wp2_with fail
          refine HC.out.mono ?_
          rintro e w2 ⟨rfl, hbx, hb⟩
          have H2 : Hid (Below w.heap.size w w2) := HW.out.trans (hb.mono (by omega))
          have HZ2 := hide ((hb.block w.heap.size (by omega)).trans HZ.out)
          rw [← HE.out] at hbx
          have HX2 := hide hbx
          clear hb hbx HC
          go_wp2_with fail
          go_roundg (gk - 1)
          case measure => omega
          case rel => exact ⟨H2.out, HZ2.out, k + 1, by omega, by go_num, by rw [HB1.out]; exact HX2.out⟩
      · have hkl : k = ms.length := by omega
        subst hkl
        generalize bsAt l ms ms.length = b at *
        obtain ⟨-, vr, vi, vs, h1, h2⟩ := HX.out
        obtain ⟨⟨c0, c1, c2, c3⟩, -⟩ := cells4 h1
        have HR := hide h2
        obtain ⟨ra, rc, rfl, -⟩ := own_slc h2.r
        obtain ⟨ia, ic, rfl, -⟩ := own_slc h2.i
        obtain ⟨sa, sc, rfl, -⟩ := own_slc h2.s
        obtain ⟨⟨z0, z1, z2, z3⟩, g0, g1, g2, g3⟩ := cells4 HZ.out
        have S3 := set_block (set_block (set_block (set_block HZ.out 0 (.slice ra b.rows.length rc)) 1 (.slice ia (ordL b.items).length ic)) 2 (.slice sa b.side.length sc)) 3 (.int .i64 b.pos)
        have s0 := cell_block S3 0
        have s1 := cell_block S3 1
        have s2 := cell_block S3 2
        have s3 := cell_block S3 3
        have HFR := hide ((((HR.out.set (j := 0) (show w.heap.size < w.heap.size + 1 by omega) (.slice ra b.rows.length rc)).set (j := 1) (show w.heap.size < w.heap.size + 1 by omega) (.slice ia (ordL b.items).length ic)).set (j := 2) (show w.heap.size < w.heap.size + 1 by omega) (.slice sa b.side.length sc)).set (j := 3) (show w.heap.size < w.heap.size + 1 by omega) (.int .i64 b.pos))
        clear h1 h2 hd hbw HX HR
        go_wp2_with fail
        all_goals go_tidy
        refine ⟨rfl, .agg #[.slice ra b.rows.length rc, .slice ia (ordL b.items).length ic, .slice sa b.side.length sc, .int .i64 b.pos], by simp [results, Try.results52, go_sem, s0, s1, s2, s3], _, _, _, rfl, ⟨GG, HFR.out.mono (by omega)⟩, ?_⟩
        repeat (first | (with_reducible exact HW.out) | (with_reducible refine Below.setCell ?_ (by simp <;> omega) _))
set_option maxHeartbeats 8000000 in
set_option maxRecDepth 100000 in
theorem sSideOf_any (v u : Value) (l : List Itm) (ms : List RMove) (w : World) (h : Itms w v l) (hnil : NilOk v) (h' : Moves w u ms) :
    Calls Try.prog 25 #[v, u] w (MvsRet w (SidOf l ms)) := by
  have HV := hide (svalidMoves_any v u l ms w h h')
  have HI := hide h
  have HM := hide h'
  have HNL := hide hnil
  obtain ⟨a, cap, rfl, -⟩ := h
  obtain ⟨ua, uc, rfl, -⟩ := h'
  clear hnil
  go_enter Try.func25, Try.ntmps25
  go_wp2_with fail
  refine HV.out.mono ?_
  rintro e w1 ⟨q, rfl, hv, hb⟩
  have H1 := hide hb
  have HVV := hide hv
  have HI1 := hide (HI.out.keep hb)
  have HM1 := hide (HM.out.keep hb)
  clear hb hv HV HI HM
  cases q with
  | false =>
    have HN : Hid (¬ vMoves l ms) := fun h => by have := HVV.out.2 h; cases this
    go_wp2_with fail
    go_ret
    exact ⟨_, [], rfl, ⟨fun h => absurd h HN.out, fun _ => rfl⟩, World.ownsRow_nil _ _ _ _, H1.out⟩
  | true =>
    have HY : Hid (vMoves l ms) := HVV.out.1 rfl
    have HR := hide (srunBuild_any _ _ l ms w1 HI1.out HNL.out HM1.out HY.out)
    clear HVV
    go_wp2_with fail
    refine HR.out.mono ?_
    rintro e w2 ⟨vr, vi, vs, rfl, ⟨g, hrw⟩, hb⟩
    have H2 : Hid (Below w.heap.size w w2) := H1.out.trans (hb.mono H1.out.size)
    have HRW := hide hrw
    obtain ⟨ra, rc, rfl, -⟩ := own_slc hrw.r
    obtain ⟨ia, ic, rfl, -⟩ := own_slc hrw.i
    obtain ⟨sa, sc, rfl, -⟩ := own_slc hrw.s
    generalize (bsAt l ms ms.length).pos = ps at *
    have hfd : ∀ w : World, (Instr.field 61 (.agg #[.slice ra (bsAt l ms ms.length).rows.length rc, .slice ia (ordL (bsAt l ms ms.length).items).length ic, .slice sa (bsAt l ms ms.length).side.length sc, .int .i64 ps]) 2).run Try.prog w = .ok (.slice sa (bsAt l ms ms.length).side.length sc) w := fun _ => by kernel_rfl
    clear hb hrw HR
    go_wp2_with fail
    go_ret
    exact ⟨_, _, rfl, ⟨fun _ => rfl, fun h => absurd HY.out h⟩, own_mono HRW.out.s H1.out.size, H2.out⟩
set_option maxHeartbeats 16000000 in
set_option maxRecDepth 100000 in
theorem sRowsAfter_any (v u : Value) (l : List Itm) (ms : List RMove) (w : World) (h : Itms w v l) (hnil : NilOk v) (h' : Moves w u ms) :
    Calls Try.prog 21 #[v, u] w (ItsRet w (AftOf l ms)) := by
  have HV := hide (svalidMoves_any v u l ms w h h')
  have HI := hide h
  have HNL := hide hnil
  obtain ⟨a, cap, rfl, -⟩ := h
  obtain ⟨ua, uc, rfl, hul, huc, hd⟩ := h'
  clear hnil
  go_enter Try.func21, Try.ntmps21
  go_wp2_with fail
  refine HV.out.mono ?_
  rintro e w1 ⟨q, rfl, hv, hb⟩
  have H1 := hide hb
  have HVV := hide hv
  have HI1 := hide (HI.out.keep hb)
  clear hb hv HV HI
  cases q with
  | false =>
    have HN : Hid (¬ vMoves l ms) := fun h => by have := HVV.out.2 h; cases this
    go_wp2_with fail
    go_ret
    exact ⟨_, [], rfl, ⟨fun h => absurd h HN.out, fun _ => rfl⟩, World.ownsRow_nil _ _ _ _, H1.out⟩
  | true =>
    have HY : Hid (vMoves l ms) := HVV.out.1 rfl
    have hl30 := HY.out.1.1.1
    have hs1 := H1.out.size
    have HI2 := hide (HI1.out.keep (below_box w1 (.cells #[] 29)))
    clear HVV HI1
    go_wp2_with (at_builtin; refine wpList_copyI rfl (.tmp 11) (.tmp 12) rfl w.heap.size w1.heap.size rfl (own_lit_at rfl hs1) _ l rfl HI2.out HNL.out (by omega) (by simp; omega) ?next)
    case next =>
      intro g2 cap2 w2 ho hg
      have H2 : Hid (Below w.heap.size w w2) := (H1.out.alloc H1.out.size _).grown hg (by simp; omega) (fun q hq => by injection hq with hq; omega)
      have HO := hide ho
      clear ho hg HI2 H1
      go_wp2_with fail
      go_loopg [5, 6] ms.length (fun gk sa sk wr => Below w.heap.size w wr ∧ ∃ k : Nat, k + gk = ms.length ∧ sk = .int .i64 (k : Int) ∧ OwnI w.heap.size wr sa (rowsAt l ms k))
      case atStart => exact ⟨H2.out, 0, by omega, rfl, HO.out⟩
      case round =>
        clear H2 HO
        obtain ⟨hbw, k, hk, rfl, hown⟩ := hrel
        have HW := hide hbw
        have HO := hide hown
        obtain ⟨ra, rc, rfl, -⟩ := own_slc hown
        clear hown
        by_cases hlt : k < ms.length
        · obtain ⟨b, off, rfl, hbb, hcell⟩ := hd.resolve_left (by rintro rfl; simp at hlt)
          have hbl := Nat.lt_of_lt_of_le hbb hbw.size
          have E := hide ((hcell k hlt).keep hbw)
          have HS1 := hide (rowsAt_s (l := l) hlt)
          have hr30 := rows_len HY.out k (by omega)
          obtain ⟨m, hm⟩ : ∃ m, ms[k] = m := ⟨_, rfl⟩
          obtain ⟨R1, hR1⟩ : ∃ R1, rowsAt l ms (k + 1) = R1 := ⟨_, rfl⟩
          obtain ⟨R0, hR0⟩ : ∃ R0, rowsAt l ms k = R0 := ⟨_, rfl⟩
          have HR1 := hide hR1
          rw [hm] at E HS1
          rw [hR0] at HS1 HO hr30 ⊢
          rw [hR1] at HS1
          clear hcell hd hbw hm hR1 hR0
          obtain ⟨sc, gn, row, key⟩ := m
          obtain ⟨e0, e1, e2, e3⟩ := E.out
          simp only at e0 e1 e2 e3
          cases sc with
          | true =>
            have HE : Hid (R1 = R0) := HS1.out
            have HRR : Hid (rowsAt l ms (k + 1) = R0) := HR1.out.trans HE.out
            go_wp2_with fail
            go_roundg (gk - 1)
            case measure => omega
            case rel => exact ⟨HW.out, k + 1, by omega, by go_num, by rw [HRR.out]; exact HO.out⟩
          | false =>
            have HE : Hid (R1 = setRowL R0 ⟨false, gn, row, key⟩) := HS1.out
            have HSR := hide (setRow_any _ R0 ⟨false, gn, row, key⟩ wr HO.out.itms (by omega))
            go_wp2_with fail
            refine HSR.out.mono ?_
            rintro e w3 ⟨v', rfl, ho, hb⟩
            have H3 : Hid (Below w.heap.size w w3) := HW.out.trans (hb.mono HW.out.size)
            rw [← HE.out] at ho
            have HO3 : Hid (OwnI w.heap.size w3 v' R1) := own_mono ho HW.out.size
            clear hb ho HSR
            go_wp2_with fail
            go_roundg (gk - 1)
            case measure => omega
            case rel => exact ⟨H3.out, k + 1, by omega, by go_num, by rw [HR1.out]; exact HO3.out⟩
        · have hkl : k = ms.length := by omega
          subst hkl
          clear hd hbw
          go_wp2_with fail
          go_ret
          exact ⟨_, _, rfl, ⟨fun _ => rfl, fun h => absurd HY.out h⟩, HO.out, HW.out⟩
end Go.Proofs.Ytppbmhlmbepneaa
