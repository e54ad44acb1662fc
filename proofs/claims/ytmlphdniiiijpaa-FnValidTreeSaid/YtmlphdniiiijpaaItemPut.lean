/-
  put, ordered, validRows, IndexOf of the specification.
-/
import Derived.Test.YtmlphdniiiijpaaDbl
import Derived.Deep.AppendLies
import Derived.Laws.OwnMore
set_option linter.all false
namespace Go.Proofs.Ytmlphdniiiijpaa
open Go.RowKit
theorem own_mono {w : World} {base base' : Nat} {e : TypeId} {size : Nat} {v : Value} {n : Nat} {xs : List Value} (h : w.ownsRow base e size v n xs) (hb : base' ≤ base) : w.ownsRow base' e size v n xs :=
  ⟨h.1, h.2.imp id fun ⟨g, cap, cur, h1, h2, h3⟩ => ⟨g, cap, cur, h1, Nat.le_trans hb h2, h3⟩⟩
theorem row_caps {B : Nat} {w : World} {g n cap size : Nat} {e : TypeId} {xs : List Value} (ho : w.ownsRow B e size (.slice (some ⟨g, 0, none⟩) n cap) n xs) : n ≤ cap ∧ cap ≤ 9223372036854775807 := by
  rcases ho.2 with ⟨h', _⟩ | ⟨g', cap', cur, h', _, _, h1, h2, _⟩
  · cases h'
  · cases h'; exact ⟨h1, h2⟩
theorem own_lit_at {W : World} {b B : Nat} {e : TypeId} {size : Nat} (hb : b = W.heap.size) (hB : B ≤ W.heap.size) : (W.alloc (.cells #[] e)).ownsRow B e size (.slice (some ⟨b, 0, none⟩) 0 0) 0 [] := by
  subst hb
  exact World.ownsRow_lit W #[] 0 hB (by decide) (by simp)
def itmCells (l : List Itm) : List Value := l.flatMap fun e => [.int .i64 e.k, .int .i64 e.r]
theorem itmCells_len (l : List Itm) : (itmCells l).length = l.length * 2 := by
  induction l with
  | nil => rfl
  | cons e l ih => simp only [itmCells, List.flatMap_cons, List.length_append, List.length_cons, List.length_nil] at ih ⊢; rw [ih]; omega
theorem itmCells_app (l : List Itm) (e : Itm) : itmCells (l ++ [e]) = itmCells l ++ [.int .i64 e.k, .int .i64 e.r] := by simp [itmCells]
theorem itmCells_at (l : List Itm) (i : Nat) (h : i < l.length) : (itmCells l)[i * 2]? = some (.int .i64 l[i].k) ∧ (itmCells l)[i * 2 + 1]? = some (.int .i64 l[i].r) := by
  induction l generalizing i with
  | nil => simp at h
  | cons e l ih =>
    have hc : itmCells (e :: l) = .int .i64 e.k :: .int .i64 e.r :: itmCells l := rfl
    cases i with
    | zero => rw [hc]; exact ⟨rfl, rfl⟩
    | succ i =>
      obtain ⟨h1, h2⟩ := ih i (by simpa using h)
      rw [hc, show (i + 1) * 2 = i * 2 + 2 from by omega]
      exact ⟨by simpa using h1, by simpa using h2⟩
def OwnI (B : Nat) (w : World) (v : Value) (l : List Itm) : Prop := w.ownsRow B 38 2 v l.length (itmCells l)
theorem OwnI.itms {B : Nat} {w : World} {v : Value} {l : List Itm} (h : OwnI B w v l) : Itms w v l := by
  unfold OwnI at h
  have h' := h
  rcases h.2 with ⟨rfl, hn⟩ | ⟨g, cap, cur, rfl, hb, hg, hnc, hcm, hcs, htake⟩
  · have : l = [] := List.length_eq_zero_iff.1 hn
    subst this
    exact ⟨none, 0, rfl, by simp, by omega, .inl rfl⟩
  · refine ⟨_, cap, rfl, hnc, by unfold maxLen at hcm; omega, .inr ⟨g, 0, rfl, lt_block hg, fun i hi => ?_⟩⟩
    obtain ⟨e0, e1⟩ := itmCells_at l i hi
    rw [Nat.zero_add]
    exact ⟨by rw [World.ownsRow.cellAt h' _ (by omega)]; exact e0, by rw [World.ownsRow.cellAt h' _ (by omega)]; exact e1⟩
theorem OwnI.keep {B : Nat} {w w' : World} {v : Value} {l : List Itm} (h : OwnI B w v l) (hb : Below w.heap.size w w') : OwnI B w' v l := by
  refine World.ownsRow.kept h (grown_below hb none) ?_
  cases hv : v.ownBlock <;> simp
theorem OwnI.alloc {B : Nat} {w : World} {v : Value} {l : List Itm} (h : OwnI B w v l) (o : Obj) : OwnI B (w.alloc o) v l := World.ownsRow.alloc h o
def putL (l : List Itm) (x : Itm) : List Itm := l.filter (fun y => lessI y x) ++ [x] ++ l.filter (fun y => lessI x y)
theorem less_asym {x y : Itm} (h : lessI x y = true) : lessI y x = false := by
  simp only [lessI, decide_eq_true_eq] at h
  simp only [lessI, decide_eq_false_iff_not]
  omega
theorem putL_len (l : List Itm) (x : Itm) : (putL l x).length ≤ l.length + 1 := by
  unfold putL
  have : ∀ l : List Itm, (l.filter (fun y => lessI y x)).length + (l.filter (fun y => lessI x y)).length ≤ l.length := by
    intro l
    induction l with
    | nil => simp
    | cons y l ih =>
      cases h1 : lessI y x with
      | true =>
        have h2 := less_asym h1
        simp [List.filter_cons, h1, h2]; omega
      | false =>
        cases h2 : lessI x y <;> simp [List.filter_cons, h1, h2] <;> omega
  have := this l
  simp; omega
theorem take_filterI {l : List Itm} {k : Nat} (h : k < l.length) (p : Itm → Bool) : (l.take (k + 1)).filter p = (l.take k).filter p ++ (if p l[k] then [l[k]] else []) := by
  rw [List.take_succ_eq_append_getElem h, List.filter_append]
  congr 1
  simp [List.filter_cons]
theorem infoI' : (Try.prog.info? 38).map (fun i => (i.zero, i.size, i.bytes)) = some (some (.agg #[.int .i64 0, .int .i64 0]), 2, 16) := infoI
set_option maxHeartbeats 8000000 in
theorem put_any (v : Value) (l : List Itm) (x : Itm) (w : World) (h : Itms w v l) (hn : l.length ≤ 1000) :
    Calls Try.prog 70 #[v, .agg #[.int .i64 x.k, .int .i64 x.r]] w fun e w' => ∃ v', e = .returned v' ∧ OwnI w.heap.size w' v' (putL l x) ∧ Below w.heap.size w w' := by
  obtain ⟨a, cap, rfl, hl, hcap, hd⟩ := h
  obtain ⟨i0, hi, hz0, hz1, hz2⟩ := info_parts infoI
  have PL := hide (show putL l x = l.filter (fun y => lessI y x) ++ [x] ++ l.filter (fun y => lessI x y) from rfl)
  have PN := hide (putL_len l x)
  go_enter Try.func70, Try.ntmps70
  go_wp2_with fail
  go_loopg [5, 6] l.length (fun gk s5 s6 wr => Below w.heap.size w wr ∧ wr.heap[w.heap.size]? = some (.cells #[.int .i64 x.k, .int .i64 x.r] 38 (0, 0)) ∧ ∃ k : Nat, k + gk = l.length ∧ s6 = .int .i64 (k : Int) ∧ OwnI (w.heap.size + 1) wr s5 ((l.take k).filter (fun y => lessI y x)))
  case atStart => exact ⟨below_box2 _ _ _, blk_keep (blk_alloc w _) _, 0, by omega, rfl, own_lit_at (by simp) (by simp)⟩
  case round =>
    obtain ⟨hbw, hbx, k, hk, rfl, hown⟩ := hrel
    have HW := hide hbw
    have HX := hide hbx
    have HO := hide hown
    have hbs : w.heap.size < wr.heap.size := lt_block hbx
    clear hown hbx
    by_cases hlt : k < l.length
    · obtain ⟨b, off, rfl, hbb, hcell⟩ := hd.resolve_left (by rintro rfl; simp at hlt)
      have E := hide ((hcell k hlt).keep hbw)
      have hbl := Nat.lt_of_lt_of_le hbb hbw.size
      have HT := hide (take_filterI hlt (fun y => lessI y x))
      have hfl : ((l.take k).filter (fun y => lessI y x)).length ≤ k := Nat.le_trans (List.length_filter_le _ _) (by rw [List.length_take]; omega)
      clear hcell hd hbw
      generalize l[k] = y at *
      obtain ⟨L0, hL0⟩ : ∃ L0, (l.take k).filter (fun y => lessI y x) = L0 := ⟨_, rfl⟩
      obtain ⟨L1, hL1⟩ : ∃ L1, (l.take (k + 1)).filter (fun y => lessI y x) = L1 := ⟨_, rfl⟩
      rw [hL0, hL1] at HT
      rw [hL0] at HO hfl
      have HL1 := hide hL1
      clear hL0 hL1
      have g0 := fun z : BW wr => bw_cell (p := ⟨b, off + k * 2, none⟩) hbl E.out.1 z
      have g1 := fun z : BW wr => bw_cell (p := ⟨b, off + k * 2 + 1, none⟩) hbl E.out.2 z
      have g2 := fun z : BW wr => bw_cell (p := ⟨w.heap.size, 0, none⟩) hbs (cell_block HX.out 0) z
      have g3 := fun z : BW wr => bw_cell (p := ⟨w.heap.size, 1, none⟩) hbs (cell_block HX.out 1) z
      cases hls : lessI y x with
      | false =>
        have CC : Hid (∀ z : World, Calls Try.prog 72 #[.agg #[.int .i64 y.k, .int .i64 y.r], .agg #[.int .i64 x.k, .int .i64 x.r]] z fun e z' => e = .returned (.bool false) ∧ Below z.heap.size z z') := fun z => by have q := slessItem_any y x z; rw [hls] at q; exact q
        have HF : Hid (L1 = L0) := by unfold Hid; rw [HT.out]; simp [hls]
        clear hls HT
        go_wp2_with fail
        refine wp_region_bw (by kernel_rfl) (by kernel_rfl) ?_
        repeat (go_big_quiet_step (first | (go_at_call 72; with_reducible exact bw_of (CC.out _))))
        refine wpQuiet_nil ?_
        rintro _ ⟨z, rfl⟩
        have H1 : Hid (Below w.heap.size w z.v) := HW.out.trans (z.h.mono HW.out.size)
        have HX1 := hide (bw_blk HX.out z)
        have HO1 := hide (HO.out.keep z.h)
        clear g0 g1 g2 g3
        go_wp2_with fail
        go_roundg (gk - 1)
        case measure => omega
        case rel => exact ⟨H1.out, HX1.out, k + 1, by omega, by go_num, by rw [HL1.out, HF.out]; exact HO1.out⟩
      | true =>
        have CC : Hid (∀ z : World, Calls Try.prog 72 #[.agg #[.int .i64 y.k, .int .i64 y.r], .agg #[.int .i64 x.k, .int .i64 x.r]] z fun e z' => e = .returned (.bool true) ∧ Below z.heap.size z z') := fun z => by have q := slessItem_any y x z; rw [hls] at q; exact q
        have HF : Hid (L1 = L0 ++ [y]) := by unfold Hid; rw [HT.out]; simp [hls]
        clear hls HT
        go_wp2_with fail
        refine wp_region_bw (by kernel_rfl) (by kernel_rfl) ?_
        repeat (go_big_quiet_step (first | (go_at_call 72; with_reducible exact bw_of (CC.out _))))
        refine wpQuiet_nil ?_
        rintro _ ⟨z, rfl⟩
        have H1 : Hid (Below w.heap.size w z.v) := HW.out.trans (z.h.mono HW.out.size)
        have HX1 := hide (bw_blk HX.out z)
        have HO1 := hide (HO.out.keep z.h)
        have e0 := g0 z
        have e1 := g1 z
        have hzs : wr.heap.size ≤ z.v.heap.size := z.h.size
        clear g0 g1 g2 g3
        go_wp2_with (at_builtin; refine wpList_append_lies _ rfl (.tmp 21) (.tmp 26) 28 rfl (w.heap.size + 1) 38 i0 _ 2 16 Try.underlying28 hi hz0 hz1 hz2 rfl (by decide) _ _ _ rfl (World.ownsRow.alloc HO1.out _) ⟨_, 0, none⟩ 1 1 [.int .i64 y.k, .int .i64 y.r] rfl rfl ?c1 ?h1 (by decide) ?h63 ?hb ?hbase _ rfl ?next)
        case c1 => exact World.news_of_block (cs := #[.int .i64 y.k, .int .i64 y.r]) (blk_at rfl _)
        case h1 => intro u hu; simp at hu; rcases hu with rfl | rfl <;> rfl
        case h63 => unfold maxLen; omega
        case hb => omega
        case hbase => simp; omega
        case next =>
          intro g cp w3 hown hgrow hat hlt3
          have HN : Hid (OwnI (w.heap.size + 1) w3 (.slice (some ⟨g, 0, none⟩) (L0.length + 1) cp) L1) := by
            rw [HF.out]
            unfold Hid OwnI
            rw [itmCells_app, List.length_append]
            exact hown
          have H3 : Hid (Below w.heap.size w w3) := (H1.out.alloc H1.out.size _).grown hgrow (by simp; omega) (fun q hq => by have := (World.ownsRow.lt HO1.out q hq).1; omega)
          have HX3 : Hid (w3.heap[w.heap.size]? = some (.cells #[.int .i64 x.k, .int .i64 x.r] 38 (0, 0))) := (hgrow.block w.heap.size (by simp; omega) (fun hq => by have := (World.ownsRow.lt HO1.out _ hq.symm).1; omega)).trans (blk_keep HX1.out _)
          clear hown hgrow hat
          go_wp2_with fail
          go_roundg (gk - 1)
          case measure => omega
          case rel => exact ⟨H3.out, HX3.out, k + 1, by omega, by go_num, by rw [HL1.out]; exact HN.out⟩
    · have hkl : k = l.length := by omega
      subst hkl
      rw [List.take_length] at HO
      obtain ⟨A0, hA0⟩ : ∃ A0, l.filter (fun y => lessI y x) = A0 := ⟨_, rfl⟩
      rw [hA0] at HO PL
      have hA1 : A0.length ≤ l.length := by rw [← hA0]; exact List.length_filter_le _ _
      clear hA0
      have HWW := hide hbw
      have c0 := cell_block HX.out 0
      have c1 := cell_block HX.out 1
      clear hbw
      go_wp2_with (at_builtin; refine wpList_append_lies _ rfl (.tmp 28) (.tmp 30) 28 rfl (w.heap.size + 1) 38 i0 _ 2 16 Try.underlying28 hi hz0 hz1 hz2 rfl (by decide) _ _ _ rfl (World.ownsRow.alloc HO.out _) ⟨_, 0, none⟩ 1 1 [.int .i64 x.k, .int .i64 x.r] rfl rfl ?c1 ?h1 (by decide) ?h63 ?hb ?hbase _ rfl ?next)
      case c1 => exact World.news_of_block (cs := #[.int .i64 x.k, .int .i64 x.r]) (blk_at rfl _)
      case h1 => intro u hu; simp at hu; rcases hu with rfl | rfl <;> rfl
      case h63 => unfold maxLen; omega
      case hb => omega
      case hbase => simp; omega
      case next =>
        intro g cp w3 hown hgrow hat hlt3
        obtain ⟨PR, hPR⟩ : ∃ PR, PR = A0 ++ [x] := ⟨_, rfl⟩
        have hprl : PR.length = A0.length + 1 := by rw [hPR]; simp
        have HN : Hid (OwnI (w.heap.size + 1) w3 (.slice (some ⟨g, 0, none⟩) (A0.length + 1) cp) PR) := by
          rw [hPR]
          unfold Hid OwnI
          rw [itmCells_app, List.length_append]
          exact hown
        have H3 : Hid (Below w.heap.size w w3) := (HWW.out.alloc HWW.out.size _).grown hgrow (by simp; omega) (fun q hq => by have := (World.ownsRow.lt HO.out q hq).1; omega)
        have HX3 : Hid (w3.heap[w.heap.size]? = some (.cells #[.int .i64 x.k, .int .i64 x.r] 38 (0, 0))) := (hgrow.block w.heap.size (by simp; omega) (fun hq => by have := (World.ownsRow.lt HO.out _ hq.symm).1; omega)).trans (blk_keep HX.out _)
        rw [← hPR] at PL
        clear hown hgrow hat hPR c0 c1 HO HX HWW
        go_wp2_with fail
        go_loopg [5, 7] l.length (fun gk s5 s6 wr => Below w.heap.size w wr ∧ wr.heap[w.heap.size]? = some (.cells #[.int .i64 x.k, .int .i64 x.r] 38 (0, 0)) ∧ ∃ k : Nat, k + gk = l.length ∧ s6 = .int .i64 (k : Int) ∧ OwnI (w.heap.size + 1) wr s5 (PR ++ (l.take k).filter (fun y => lessI x y)))
        case atStart => exact ⟨H3.out, HX3.out, 0, by omega, rfl, by simpa using HN.out⟩
        case round =>
          obtain ⟨hbw, hbx, k, hk, rfl, hown⟩ := hrel
          have HW := hide hbw
          have HX := hide hbx
          have HO := hide hown
          have hbs : w.heap.size < wr.heap.size := lt_block hbx
          clear hown hbx
          by_cases hlt : k < l.length
          · obtain ⟨b, off, rfl, hbb, hcell⟩ := hd.resolve_left (by rintro rfl; simp at hlt)
            have E := hide ((hcell k hlt).keep hbw)
            have hbl := Nat.lt_of_lt_of_le hbb hbw.size
            have hl1000 := hn
            have HT := hide (take_filterI hlt (fun y => lessI x y))
            have hfl : ((l.take k).filter (fun y => lessI x y)).length ≤ k := Nat.le_trans (List.length_filter_le _ _) (by rw [List.length_take]; omega)
            clear hcell hd hbw
            generalize l[k] = y at *
            obtain ⟨L0, hL0⟩ : ∃ L0, (l.take k).filter (fun y => lessI x y) = L0 := ⟨_, rfl⟩
            obtain ⟨L1, hL1⟩ : ∃ L1, (l.take (k + 1)).filter (fun y => lessI x y) = L1 := ⟨_, rfl⟩
            rw [hL0, hL1] at HT
            rw [hL0] at HO hfl
            have HPL : Hid ((PR ++ L0).length = PR.length + L0.length) := List.length_append
            have hpl : (PR ++ L0).length ≤ 2001 := by rw [HPL.out]; omega
            obtain ⟨Q0, hQ0⟩ : ∃ Q0, PR ++ L0 = Q0 := ⟨_, rfl⟩
            rw [hQ0] at HO hpl
            have HQ := hide hQ0
            clear hQ0 HPL hfl
            have HL1 := hide hL1
            clear hL0 hL1
            have g0 := fun z : BW wr => bw_cell (p := ⟨b, off + k * 2, none⟩) hbl E.out.1 z
            have g1 := fun z : BW wr => bw_cell (p := ⟨b, off + k * 2 + 1, none⟩) hbl E.out.2 z
            have g2 := fun z : BW wr => bw_cell (p := ⟨w.heap.size, 0, none⟩) hbs (cell_block HX.out 0) z
            have g3 := fun z : BW wr => bw_cell (p := ⟨w.heap.size, 1, none⟩) hbs (cell_block HX.out 1) z
            cases hls : lessI x y with
            | false =>
              have CC : Hid (∀ z : World, Calls Try.prog 72 #[.agg #[.int .i64 x.k, .int .i64 x.r], .agg #[.int .i64 y.k, .int .i64 y.r]] z fun e z' => e = .returned (.bool false) ∧ Below z.heap.size z z') := fun z => by have q := slessItem_any x y z; rw [hls] at q; exact q
              have HF : Hid (L1 = L0) := by unfold Hid; rw [HT.out]; simp [hls]
              clear hls HT
              go_wp2_with fail
              refine wp_region_bw (by kernel_rfl) (by kernel_rfl) ?_
              repeat (go_big_quiet_step (first | (go_at_call 72; with_reducible exact bw_of (CC.out _))))
              refine wpQuiet_nil ?_
              rintro _ ⟨z, rfl⟩
              have H1 : Hid (Below w.heap.size w z.v) := HW.out.trans (z.h.mono HW.out.size)
              have HX1 := hide (bw_blk HX.out z)
              have HO1 := hide (HO.out.keep z.h)
              clear g0 g1 g2 g3
              go_wp2_with fail
              go_roundg (gk - 1)
              case measure => omega
              case rel => exact ⟨H1.out, HX1.out, k + 1, by omega, by go_num, by rw [HL1.out, HF.out, HQ.out]; exact HO1.out⟩
            | true =>
              have CC : Hid (∀ z : World, Calls Try.prog 72 #[.agg #[.int .i64 x.k, .int .i64 x.r], .agg #[.int .i64 y.k, .int .i64 y.r]] z fun e z' => e = .returned (.bool true) ∧ Below z.heap.size z z') := fun z => by have q := slessItem_any x y z; rw [hls] at q; exact q
              have HF : Hid (L1 = L0 ++ [y]) := by unfold Hid; rw [HT.out]; simp [hls]
              clear hls HT
              go_wp2_with fail
              refine wp_region_bw (by kernel_rfl) (by kernel_rfl) ?_
              repeat (go_big_quiet_step (first | (go_at_call 72; with_reducible exact bw_of (CC.out _))))
              refine wpQuiet_nil ?_
              rintro _ ⟨z, rfl⟩
              have H1 : Hid (Below w.heap.size w z.v) := HW.out.trans (z.h.mono HW.out.size)
              have HX1 := hide (bw_blk HX.out z)
              have HO1 := hide (HO.out.keep z.h)
              have e0 := g0 z
              have e1 := g1 z
              have hzs : wr.heap.size ≤ z.v.heap.size := z.h.size
              clear g0 g1 g2 g3
              go_wp2_with (at_builtin; refine wpList_append_lies _ rfl (.tmp 44) (.tmp 49) 28 rfl (w.heap.size + 1) 38 i0 _ 2 16 Try.underlying28 hi hz0 hz1 hz2 rfl (by decide) _ _ _ rfl (World.ownsRow.alloc HO1.out _) ⟨_, 0, none⟩ 1 1 [.int .i64 y.k, .int .i64 y.r] rfl rfl ?c1 ?h1 (by decide) ?h63 ?hb ?hbase _ rfl ?next)
              case c1 => exact World.news_of_block (cs := #[.int .i64 y.k, .int .i64 y.r]) (blk_at rfl _)
              case h1 => intro u hu; simp at hu; rcases hu with rfl | rfl <;> rfl
              case h63 => unfold maxLen; omega
              case hb => omega
              case hbase => simp; omega
              case next =>
                intro g cp w3 hown hgrow hat hlt3
                have HN : Hid (OwnI (w.heap.size + 1) w3 (.slice (some ⟨g, 0, none⟩) (Q0.length + 1) cp) (PR ++ L1)) := by
                  rw [HF.out, ← List.append_assoc, HQ.out]
                  unfold Hid OwnI
                  rw [itmCells_app, List.length_append (bs := [y])]
                  exact hown
                have H3 : Hid (Below w.heap.size w w3) := (H1.out.alloc H1.out.size _).grown hgrow (by simp; omega) (fun q hq => by have := (World.ownsRow.lt HO1.out q hq).1; omega)
                have HX3 : Hid (w3.heap[w.heap.size]? = some (.cells #[.int .i64 x.k, .int .i64 x.r] 38 (0, 0))) := (hgrow.block w.heap.size (by simp; omega) (fun hq => by have := (World.ownsRow.lt HO1.out _ hq.symm).1; omega)).trans (blk_keep HX1.out _)
                clear hown hgrow hat
                go_wp2_with fail
                go_roundg (gk - 1)
                case measure => omega
                case rel => exact ⟨H3.out, HX3.out, k + 1, by omega, by go_num, by rw [HL1.out]; exact HN.out⟩
          · have hkl : k = l.length := by omega
            subst hkl
            rw [List.take_length] at HO
            rw [← PL.out] at HO
            clear hd hbw
            go_wp2_with fail
            go_ret
            exact ⟨_, rfl, own_mono HO.out (by omega), HW.out⟩
end Go.Proofs.Ytmlphdniiiijpaa
