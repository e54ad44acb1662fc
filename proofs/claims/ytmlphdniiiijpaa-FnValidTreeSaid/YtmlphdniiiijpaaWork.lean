/-
  slices.Delete and slices.Insert at a list of items that the call owns; the state of a build in memory beside the box of a move.
-/
import Derived.Test.YtmlphdniiiijpaaBS
set_option linter.all false
namespace Go.Proofs.Ytmlphdniiiijpaa
open Go.RowKit
def delK (l : List Itm) (k : Nat) : List Itm := l.take k ++ l.drop (k + 1)
def insK (l : List Itm) (k : Nat) (x : Itm) : List Itm := l.take k ++ [x] ++ l.drop k
theorem delK_len {l : List Itm} {k : Nat} (h : k < l.length) : (delK l k).length + 1 = l.length := by
  unfold delK; rw [List.length_append, List.length_take, List.length_drop]; omega
theorem insK_len {l : List Itm} {k : Nat} (h : k ≤ l.length) (x : Itm) : (insK l k x).length = l.length + 1 := by
  unfold insK; rw [List.length_append, List.length_append, List.length_take, List.length_drop]; simp; omega
theorem itmCells_app2 (l m : List Itm) : itmCells (l ++ m) = itmCells l ++ itmCells m := by simp [itmCells]
theorem itmCells_take (l : List Itm) (i : Nat) (h : i ≤ l.length) : itmCells (l.take i) = (itmCells l).take (i * 2) :=
  flat_take (enc := fun e : Itm => [.int .i64 e.k, .int .i64 e.r]) (k := 2) (fun _ => rfl) l i h
theorem itmCells_drop (l : List Itm) (i : Nat) (h : i ≤ l.length) : itmCells (l.drop i) = (itmCells l).drop (i * 2) :=
  flat_drop (enc := fun e : Itm => [.int .i64 e.k, .int .i64 e.r]) (k := 2) (fun _ => rfl) l i h
theorem delI_any (B rb rc k : Nat) (j : Int) (l : List Itm) (w : World) (h : OwnI B w (.slice (some ⟨rb, 0, none⟩) l.length rc) l) (hk : k < l.length) (hj : j = (k : Int) + 1) :
    Calls Try.prog 56 #[.slice (some ⟨rb, 0, none⟩) l.length rc, .int .i64 (k : Int), .int .i64 j] w fun e w' =>
      e = .returned (.slice (some ⟨rb, 0, none⟩) (delK l k).length rc) ∧ OwnI B w' (.slice (some ⟨rb, 0, none⟩) (delK l k).length rc) (delK l k) ∧ w.grownBy w' (some rb) := by
  obtain ⟨m, hm⟩ : ∃ m, l.length = k + 1 + m := ⟨l.length - (k + 1), by omega⟩
  have hd : (delK l k).length = k + m := by have := delK_len hk; omega
  unfold OwnI at h ⊢
  have hc : itmCells (delK l k) = (itmCells l).take (k * 2) ++ (itmCells l).drop ((k + 1) * 2) := by
    unfold delK; rw [itmCells_app2, itmCells_take l k (by omega), itmCells_drop l (k + 1) (by omega)]
  have hj' : j = ((k + 1 : Nat) : Int) := by omega
  rw [hd, hc, hj']
  have h1 := itmCells_one l
  rw [hm] at h ⊢
  exact delItem_any B rb m k rc (itmCells l) w h h1
def InsRet (B : Nat) (v : Value) (r : List Itm) (w : World) (e : Ending) (w' : World) : Prop :=
  ∃ g' cap', e = .returned (.slice (some ⟨g', 0, none⟩) r.length cap') ∧ OwnI B w' (.slice (some ⟨g', 0, none⟩) r.length cap') r ∧ w.grownBy w' v.ownBlock ∧ (v.ownBlock = some g' ∨ w.heap.size ≤ g')
theorem insI_any (B vb vc k : Nat) (v : Value) (x : Itm) (l : List Itm) (w : World) (h : OwnI B w v l) (hB : B ≤ w.heap.size) (hn : l.length ≤ 1000) (hk : k ≤ l.length) (hvb : w.heap[vb]? = some (.cells #[.int .i64 x.k, .int .i64 x.r] 38 (0, 0))) (hne : v.ownBlock ≠ some vb) :
    Calls Try.prog 68 #[v, .int .i64 (k : Int), .slice (some ⟨vb, 0, none⟩) 1 vc] w (InsRet B v (insK l k x) w) := by
  have hc : itmCells (insK l k x) = (itmCells l).take (k * 2) ++ [.int .i64 x.k, .int .i64 x.r] ++ (itmCells l).drop (k * 2) := by
    unfold insK; rw [itmCells_app2, itmCells_app2, itmCells_take l k hk, itmCells_drop l k hk]; rfl
  have hl := insK_len hk x
  refine (insItem_any B vb vc l.length k v (itmCells l) [.int .i64 x.k, .int .i64 x.r] w h hB hn hk rfl (itmCells_one l) (by intro u hu; simp at hu; rcases hu with rfl | rfl <;> rfl) hvb hne).mono ?_
  rintro e w' ⟨g', cap', rfl, h1, h2, h3⟩
  refine ⟨g', cap', by rw [hl], ?_, h2, h3⟩
  unfold OwnI
  rw [hl, hc]
  exact h1
theorem own_alloc_drew {B size n : Nat} {e : TypeId} {w : World} {v : Value} {xs : List Value} (h : w.ownsRow B e size v n xs) (o : Obj) : ((w.alloc o).drew).ownsRow B e size v n xs := World.ownsRow.drew (World.ownsRow.alloc h o)
section
variable {B g mb : Nat} {w0 W : World} {vr vi vs : Value} {rs its : List Itm} {ps : Int} {sd : List RMove} {m : RMove}
end
theorem row_key {B c k : Nat} {a : Option Addr} {w : World} {rs : List Itm} (h : OwnI B w (.slice a rs.length c) rs) (hk : k < rs.length) :
    ∃ rb, a = some ⟨rb, 0, none⟩ ∧ w.cell? ⟨rb, k * 2, none⟩ = some (.int .i64 rs[k].k) ∧ w.cell? ⟨rb, k * 2 + 1, none⟩ = some (.int .i64 rs[k].r) := by
  have h' := h
  rcases h.2 with ⟨hq, hq2⟩ | ⟨rb, cap, cur, hq, -⟩
  · omega
  · injection hq with hq _ _
    subst hq
    obtain ⟨q0, q1⟩ := itmCells_at rs k hk
    exact ⟨rb, rfl, by rw [World.ownsRow.cellAt h' _ (by omega)]; exact q0, by rw [World.ownsRow.cellAt h' _ (by omega)]; exact q1⟩
/-- a step of a region: a call of a Go function, by its contract -/
theorem step_call {P : Program} {ops : Array Oper} {o : Oper} {a : Act} {w : World} {K : Act → World → Prop} {Q : Exit → Act → World → Prop} {E : Prop} (hg : o.guard = none) (f : FuncId) (args : Array Value)
    (hrun : (execOp a.eval o).run P w = .ok (.enter f args) w) {R : Ending → World → Prop} (hc : Calls P f args w R) (hK : ∀ e w', R e w' → ∃ v, e = .returned v ∧ K (a.put o.dst v) w') :
    if Region.wanted o (yielded ops a.tmps) = true then Oper.wp P o a w K Q else E := by
  have hw : Region.wanted o (yielded ops a.tmps) = true := by simp [Region.wanted, hg]
  rw [if_pos hw]
  unfold Oper.wp
  rw [hrun, Oper.upon_enter]
  refine hc.mono fun e w' h => ?_
  obtain ⟨v, rfl, hk⟩ := hK e w' h
  exact hk
end Go.Proofs.Ytmlphdniiiijpaa
