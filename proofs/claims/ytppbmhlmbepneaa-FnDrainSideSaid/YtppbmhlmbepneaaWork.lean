/-
  slices.Delete and slices.Insert at a list of items that the call owns; the state of a build in memory beside the box of a move.
-/
import Derived.Test.YtppbmhlmbepneaaBS
set_option linter.all false
namespace Go.Proofs.Ytppbmhlmbepneaa
open Go.RowKit
def delK (l : List Itm) (k : Nat) : List Itm := l.take k ++ l.drop (k + 1)
def insK (l : List Itm) (k : Nat) (x : Itm) : List Itm := l.take k ++ [x] ++ l.drop k
theorem delK_len {l : List Itm} {k : Nat} (h : k < l.length) : (delK l k).length + 1 = l.length := by
  unfold delK; rw [List.length_append, List.length_take, List.length_drop]; omega
theorem insK_len {l : List Itm} {k : Nat} (h : k ≤ l.length) (x : Itm) : (insK l k x).length = l.length + 1 := by
  unfold insK; rw [List.length_append, List.length_append, List.length_take, List.length_drop]; simp; omega
theorem itmCells_app2 (l m : List Itm) : itmCells (l ++ m) = itmCells l ++ itmCells m := by simp [itmCells]
theorem itmCells_take (l : List Itm) (i : Nat) (h : i ≤ l.length) : itmCells (l.take i) = (itmCells l).take (i * 2) :=
  flat_take (enc := fun e : Itm => [.int .i64 e.k, .int .i64 e.r]) (k := 2) (fun _ => rfl) l i h
theorem itmCells_drop (l : List Itm) (i : Nat) (h : i ≤ l.length) : itmCells (l.drop i) = (itmCells l).drop (i * 2) :=
  flat_drop (enc := fun e : Itm => [.int .i64 e.k, .int .i64 e.r]) (k := 2) (fun _ => rfl) l i h
theorem delI_any (B rb rc k : Nat) (j : Int) (l : List Itm) (w : World) (h : OwnI B w (.slice (some ⟨rb, 0, none⟩) l.length rc) l) (hk : k < l.length) (hj : j = (k : Int) + 1) :
    Calls Try.prog 75 #[.slice (some ⟨rb, 0, none⟩) l.length rc, .int .i64 (k : Int), .int .i64 j] w fun e w' =>
      e = .returned (.slice (some ⟨rb, 0, none⟩) (delK l k).length rc) ∧ OwnI B w' (.slice (some ⟨rb, 0, none⟩) (delK l k).length rc) (delK l k) ∧ w.grownBy w' (some rb) := by
  obtain ⟨m, hm⟩ : ∃ m, l.length = k + 1 + m := ⟨l.length - (k + 1), by omega⟩
  have hd : (delK l k).length = k + m := by have := delK_len hk; omega
  unfold OwnI at h ⊢
  have hc : itmCells (delK l k) = (itmCells l).take (k * 2) ++ (itmCells l).drop ((k + 1) * 2) := by
    unfold delK; rw [itmCells_app2, itmCells_take l k (by omega), itmCells_drop l (k + 1) (by omega)]
  have hj' : j = ((k + 1 : Nat) : Int) := by omega
  rw [hd, hc, hj']
  have h1 := itmCells_one l
  rw [hm] at h ⊢
  exact delItem_any B rb m k rc (itmCells l) w h h1
def InsRet (B : Nat) (v : Value) (r : List Itm) (w : World) (e : Ending) (w' : World) : Prop :=
  ∃ g' cap', e = .returned (.slice (some ⟨g', 0, none⟩) r.length cap') ∧ OwnI B w' (.slice (some ⟨g', 0, none⟩) r.length cap') r ∧ w.grownBy w' v.ownBlock ∧ (v.ownBlock = some g' ∨ w.heap.size ≤ g')
theorem insI_any (B vb vc k : Nat) (v : Value) (x : Itm) (l : List Itm) (w : World) (h : OwnI B w v l) (hB : B ≤ w.heap.size) (hn : l.length ≤ 1000) (hk : k ≤ l.length) (hvb : w.heap[vb]? = some (.cells #[.int .i64 x.k, .int .i64 x.r] 29 (0, 0))) (hne : v.ownBlock ≠ some vb) :
    Calls Try.prog 76 #[v, .int .i64 (k : Int), .slice (some ⟨vb, 0, none⟩) 1 vc] w (InsRet B v (insK l k x) w) := by
  have hc : itmCells (insK l k x) = (itmCells l).take (k * 2) ++ [.int .i64 x.k, .int .i64 x.r] ++ (itmCells l).drop (k * 2) := by
    unfold insK; rw [itmCells_app2, itmCells_app2, itmCells_take l k hk, itmCells_drop l k hk]; rfl
  have hl := insK_len hk x
  refine (insItem_any B vb vc l.length k v (itmCells l) [.int .i64 x.k, .int .i64 x.r] w h hB hn hk rfl (itmCells_one l) (by intro u hu; simp at hu; rcases hu with rfl | rfl <;> rfl) hvb hne).mono ?_
  rintro e w' ⟨g', cap', rfl, h1, h2, h3⟩
  refine ⟨g', cap', by rw [hl], ?_, h2, h3⟩
  unfold OwnI
  rw [hl, hc]
  exact h1
theorem own_alloc_drew {B size n : Nat} {e : TypeId} {w : World} {v : Value} {xs : List Value} (h : w.ownsRow B e size v n xs) (o : Obj) : ((w.alloc o).drew).ownsRow B e size v n xs := World.ownsRow.drew (World.ownsRow.alloc h o)
/-- a build in memory, beside the box of a move -/
structure MvSt (B g mb : Nat) (w0 W : World) (vr vi vs : Value) (rs : List Itm) (ps : Int) (its : List Itm) (sd : List RMove) (m : RMove) : Prop where
  hB : B ≤ g
  hb : W.heap[g]? = some (.cells #[vr, .int .i64 ps, vi, vs] 58 (0, 0))
  hm : W.heap[mb]? = some (.cells #[.bool m.scan, .bool m.gone, .int .i64 m.row, .int .i64 m.key] 42 (0, 0))
  R : RowsB B g W vr vi vs rs its sd
  M : RowsB B mb W vr vi vs rs its sd
  ne : g ≠ mb
  H : Below B w0 W
section
variable {B g mb : Nat} {w0 W : World} {vr vi vs : Value} {rs its : List Itm} {ps : Int} {sd : List RMove} {m : RMove}
theorem MvSt.gl (h : MvSt B g mb w0 W vr vi vs rs ps its sd m) : g < W.heap.size := lt_block h.hb
theorem MvSt.ml (h : MvSt B g mb w0 W vr vi vs rs ps its sd m) : mb < W.heap.size := lt_block h.hm
theorem MvSt.hBW (h : MvSt B g mb w0 W vr vi vs rs ps its sd m) : B ≤ W.heap.size := Nat.le_of_lt (Nat.lt_of_le_of_lt h.hB h.gl)
theorem RowsB.by2 {k : Nat} {w w' : World} (h : RowsB B k w vr vi vs rs its sd) (h' : RowsB B g w vr vi vs rs its sd) (hb : w.grownBy w' (some g)) : RowsB B k w' vr vi vs rs its sd :=
  ⟨own_by h.r hb h'.rg, own_by h.i hb h'.ig, own_by h.s hb h'.sg, h.rg, h.ig, h.sg, h.ri, h.rs, h.is⟩
theorem MvSt.keep {W' : World} (h : MvSt B g mb w0 W vr vi vs rs ps its sd m) (hb : Below W.heap.size W W') : MvSt B g mb w0 W' vr vi vs rs ps its sd m :=
  ⟨h.hB, blk_own hb h.hb, blk_own hb h.hm, h.R.keep hb, h.M.keep hb, h.ne, h.H.trans (hb.mono h.hBW)⟩
/-- the side has grown: W is the world before, W3 the one that the call leaves -/
theorem MvSt.stepS {gg n cap H : Nat} {W3 : World} {sd' : List RMove} (h : MvSt B g mb w0 W vr vi vs rs ps its sd m)
    (hg : W.grownBy W3 vs.ownBlock) (ho : OwnM B W3 (.slice (some ⟨gg, 0, none⟩) n cap) sd') (hat : vs.ownBlock = some gg ∨ H ≤ gg) (hH : W.heap.size ≤ H) :
    MvSt B g mb w0 (W3.setCell ⟨g, 3, none⟩ (.slice (some ⟨gg, 0, none⟩) n cap)) vr vi (.slice (some ⟨gg, 0, none⟩) n cap) rs ps its sd' m := by
  have hg3 := (hg.block g h.gl (fun e => h.R.sg e.symm)).trans h.hb
  have hm3 := (hg.block mb h.ml (fun e => h.M.sg e.symm)).trans h.hm
  have R3 := h.R.setS h.gl hg ho hat hH
  have M3 := h.M.setS h.ml hg ho hat hH
  exact ⟨h.hB, set_block hg3 3 _, blk_by (grown_setCell _ _ _ _) hm3 (fun e => h.ne e.symm), R3.by (grown_setCell _ _ _ _), M3.by2 R3 (grown_setCell _ _ _ _), h.ne,
    (h.H.grown hg h.hBW (fun k hk => (World.ownsRow.lt h.R.s k hk).1)).setCell (by have := h.hB; simp; omega) _⟩
theorem MvSt.stepR {gg n cap H : Nat} {W3 : World} {rs' : List Itm} (h : MvSt B g mb w0 W vr vi vs rs ps its sd m)
    (hg : W.grownBy W3 vr.ownBlock) (ho : OwnI B W3 (.slice (some ⟨gg, 0, none⟩) n cap) rs') (hat : vr.ownBlock = some gg ∨ H ≤ gg) (hH : W.heap.size ≤ H) :
    MvSt B g mb w0 (W3.setCell ⟨g, 0, none⟩ (.slice (some ⟨gg, 0, none⟩) n cap)) (.slice (some ⟨gg, 0, none⟩) n cap) vi vs rs' ps its sd m := by
  have hg3 := (hg.block g h.gl (fun e => h.R.rg e.symm)).trans h.hb
  have hm3 := (hg.block mb h.ml (fun e => h.M.rg e.symm)).trans h.hm
  have R3 := h.R.setR h.gl hg ho hat hH
  have M3 := h.M.setR h.ml hg ho hat hH
  exact ⟨h.hB, set_block hg3 0 _, blk_by (grown_setCell _ _ _ _) hm3 (fun e => h.ne e.symm), R3.by (grown_setCell _ _ _ _), M3.by2 R3 (grown_setCell _ _ _ _), h.ne,
    (h.H.grown hg h.hBW (fun k hk => (World.ownsRow.lt h.R.r k hk).1)).setCell (by have := h.hB; simp; omega) _⟩
theorem MvSt.start (m : RMove) (hB : B ≤ g) (hb : W.heap[g]? = some (.cells #[vr, .int .i64 ps, vi, vs] 58 (0, 0))) (R : RowsB B g W vr vi vs rs its sd) :
    MvSt B g W.heap.size W (W.alloc (.cells #[.bool m.scan, .bool m.gone, .int .i64 m.row, .int .i64 m.key] 42)) vr vi vs rs ps its sd m := by
  have hgl := lt_block hb
  have hlt : ∀ {size n : Nat} {e : TypeId} {v : Value} {xs : List Value}, W.ownsRow B e size v n xs → v.ownBlock ≠ some W.heap.size := fun h e => by have := (World.ownsRow.lt h _ e).2; omega
  exact ⟨hB, blk_keep hb _, blk_alloc W _, R.keep (below_box W _), ⟨R.r.alloc _, R.i.alloc _, R.s.alloc _, hlt R.r, hlt R.i, hlt R.s, R.ri, R.rs, R.is⟩, by omega, (below_box W _).mono (by omega)⟩
end
theorem row_key {B c k : Nat} {a : Option Addr} {w : World} {rs : List Itm} (h : OwnI B w (.slice a rs.length c) rs) (hk : k < rs.length) :
    ∃ rb, a = some ⟨rb, 0, none⟩ ∧ w.cell? ⟨rb, k * 2, none⟩ = some (.int .i64 rs[k].k) ∧ w.cell? ⟨rb, k * 2 + 1, none⟩ = some (.int .i64 rs[k].r) := by
  have h' := h
  rcases h.2 with ⟨hq, hq2⟩ | ⟨rb, cap, cur, hq, -⟩
  · omega
  · injection hq with hq _ _
    subst hq
    obtain ⟨q0, q1⟩ := itmCells_at rs k hk
    exact ⟨rb, rfl, by rw [World.ownsRow.cellAt h' _ (by omega)]; exact q0, by rw [World.ownsRow.cellAt h' _ (by omega)]; exact q1⟩
/-- a step of a region: a call of a Go function, by its contract -/
theorem step_call {P : Program} {ops : Array Oper} {o : Oper} {a : Act} {w : World} {K : Act → World → Prop} {Q : Exit → Act → World → Prop} {E : Prop} (hg : o.guard = none) (f : FuncId) (args : Array Value)
    (hrun : (execOp a.eval o).run P w = .ok (.enter f args) w) {R : Ending → World → Prop} (hc : Calls P f args w R) (hK : ∀ e w', R e w' → ∃ v, e = .returned v ∧ K (a.put o.dst v) w') :
    if Region.wanted o (yielded ops a.tmps) = true then Oper.wp P o a w K Q else E := by
  have hw : Region.wanted o (yielded ops a.tmps) = true := by simp [Region.wanted, hg]
  rw [if_pos hw]
  unfold Oper.wp
  rw [hrun, Oper.upon_enter]
  refine hc.mono fun e w' h => ?_
  obtain ⟨v, rfl, hk⟩ := hK e w' h
  exact hk
end Go.Proofs.Ytppbmhlmbepneaa
