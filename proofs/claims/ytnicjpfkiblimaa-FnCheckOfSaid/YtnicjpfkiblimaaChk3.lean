/-
  endOwners of the program.
-/
import Derived.Test.YtnicjpfkiblimaaChk1
set_option linter.all false
namespace Go.Proofs.Ytnicjpfkiblimaa
open Go.RowKit
theorem blk_other {w : World} {b b' o : Nat} {v : Value} {x : Obj} (h : w.heap[b]? = some x) (hne : b ≠ b') : (w.setCell ⟨b', o, none⟩ v).heap[b]? = some x := (Below.heap_setCell w ⟨b', o, none⟩ v b hne).trans h
theorem endB_take {l : List RNote} {k : Nat} (h : k < l.length) (t : Int) : endB (l.take (k + 1)) t = (endB (l.take k) t || (l[k].fin && (l[k].owner == t))) := by
  unfold endB
  rw [List.take_succ_eq_append_getElem h, List.any_append]
  simp
def endArr (l : List RNote) : Array Value := #[.bool (endB l 0), .bool (endB l 1), .bool (endB l 2), .bool (endB l 3), .bool (endB l 4), .bool (endB l 5), .bool (endB l 6), .bool (endB l 7)]
theorem endArr_same {l : List RNote} {k : Nat} (h : k < l.length) (hf : l[k].fin = false) : endArr (l.take (k + 1)) = endArr (l.take k) := by
  unfold endArr
  simp [endB_take h, hf]
theorem endArr_set {l : List RNote} {k o : Nat} (h : k < l.length) (hf : l[k].fin = true) (ho : l[k].owner = (o : Int)) (h8 : o < 8) : (endArr (l.take k)).setIfInBounds o (.bool true) = endArr (l.take (k + 1)) := by
  have hc : o = 0 ∨ o = 1 ∨ o = 2 ∨ o = 3 ∨ o = 4 ∨ o = 5 ∨ o = 6 ∨ o = 7 := by omega
  rcases hc with rfl | rfl | rfl | rfl | rfl | rfl | rfl | rfl <;> simp [endArr, endB_take h, hf, ho]
set_option maxHeartbeats 8000000 in
theorem endOwners_any (v : Value) (l : List RNote) (w : World) (h : Notes w v l) (ho : ∀ i (h : i < l.length), 0 ≤ l[i].owner ∧ l[i].owner ≤ 7) :
    Calls Try.prog 24 #[v] w fun e w' => e = .returned (.agg (endArr l)) ∧ Below w.heap.size w w' := by
  obtain ⟨a, cap, rfl, hl, hcap, hd⟩ := h
  have HO := hide ho
  clear ho
  go_enter Try.func24, Try.ntmps24
  go_wp2_with fail
  go_loopg [8] l.length (fun gk sk wr => Below w.heap.size w wr ∧ wr.heap[w.heap.size]? = some (.cells #[.bool false, .bool false, .bool false, .bool false, .bool false, .bool false, .bool false, .bool false] 56 (0, 0)) ∧ ∃ k : Nat, k + gk = l.length ∧ sk = .int .i64 (k : Int) ∧ wr.heap[w.heap.size + 1]? = some (.cells (endArr (l.take k)) 56 (0, 0)))
  case atStart => exact ⟨((Below.refl _ _).alloc (Nat.le_refl _) _).alloc (by simp) _, blk_keep (blk_alloc w _) _, 0, by omega, rfl, blk_at (by simp) _⟩
  case round =>
    obtain ⟨hbw, hz, k, hk, rfl, hb⟩ := hrel
    have HW := hide hbw
    have HZ := hide hz
    have HB := hide hb
    have hsz : w.heap.size + 1 < wr.heap.size := lt_block hb
    clear hz hb
    by_cases hlt : k < l.length
    · obtain ⟨b, off, rfl, hbb, hcell⟩ := hd.resolve_left (by rintro rfl; simp at hlt)
      obtain ⟨e0, e1, e2, e3, e4⟩ := (hcell k hlt).keep hbw
      have HS := hide (fun hf => endArr_same hlt hf)
      have HT := hide (fun o hf h1 h2 => endArr_set (o := o) hlt hf h1 h2)
      obtain ⟨o1, o2⟩ := HO.out k hlt
      clear hcell hd hbw
      generalize l[k] = x at *
      obtain ⟨o, hox⟩ : ∃ o : Nat, x.owner = (o : Int) := ⟨x.owner.toNat, by omega⟩
      have ho8 : o < 8 := by omega
      rw [hox] at e1
      have HOX := hide hox
      clear o1 o2 hox
      have HZ2 := hide (blk_keep HZ.out (.cells #[.bool x.fin, .int .i64 (o : Int), .int .i64 x.thing, .int .i64 x.old, .int .i64 x.new] 41))
      have HB2 := hide (blk_keep HB.out (.cells #[.bool x.fin, .int .i64 (o : Int), .int .i64 x.thing, .int .i64 x.old, .int .i64 x.new] 41))
      have HW2 := hide (HW.out.alloc HW.out.size (.cells #[.bool x.fin, .int .i64 (o : Int), .int .i64 x.thing, .int .i64 x.old, .int .i64 x.new] 41))
      obtain ⟨xf, hxf⟩ : ∃ xf, x.fin = xf := ⟨_, rfl⟩
      rw [hxf] at e0 HS HT HZ2 HB2 HW2
      clear hxf
      cases xf with
      | false =>
        go_wp2_with fail
        go_roundg (gk - 1)
        case measure => omega
        case rel => exact ⟨HW2.out, HZ2.out, k + 1, by omega, by go_num, by rw [HS.out (by first | exact rfl | exact trivial)]; exact HB2.out⟩
      | true =>
        obtain ⟨u, hu⟩ : ∃ u, wr.cell? ⟨w.heap.size + 1, o, none⟩ = some u := ⟨_, by rw [cell_block HB.out]; exact Array.getElem?_eq_getElem (by simp [endArr]; omega)⟩
        have fu := froz_block HB.out o
        go_wp2_with fail
        go_roundg (gk - 1)
        case measure => omega
        case rel => exact ⟨(HW.out.setCell (by simp) _).alloc (by have := HW.out.size; simp; omega) _, blk_keep (blk_other HZ.out (by omega)) _, k + 1, by omega, by go_num, by rw [← HT.out o (by first | exact rfl | exact trivial) HOX.out (by omega)]; exact blk_keep (set_block HB.out _ _) _⟩
    · have hkl : k = l.length := by omega
      subst hkl
      rw [List.take_length] at HB
      have c0 : wr.cell? ⟨w.heap.size + 1, 0, none⟩ = some (.bool (endB l 0)) := by rw [cell_block HB.out]; rfl
      have z0 : wr.cell? ⟨w.heap.size, 0, none⟩ = some (.bool false) := by rw [cell_block HZ.out]; rfl
      have f0 := froz_block HZ.out 0
      have s0 : ((wr).setCell ⟨w.heap.size, 0, none⟩ (.bool (endB l 0))).cell? ⟨w.heap.size, 0, none⟩ = some (.bool (endB l 0)) := by rw [cell_block (set_block (HZ.out) 0 _)]; rfl
      have c1 : wr.cell? ⟨w.heap.size + 1, 1, none⟩ = some (.bool (endB l 1)) := by rw [cell_block HB.out]; rfl
      have z1 : wr.cell? ⟨w.heap.size, 1, none⟩ = some (.bool false) := by rw [cell_block HZ.out]; rfl
      have f1 := froz_block HZ.out 1
      have s1 : (((wr).setCell ⟨w.heap.size, 0, none⟩ (.bool (endB l 0))).setCell ⟨w.heap.size, 1, none⟩ (.bool (endB l 1))).cell? ⟨w.heap.size, 1, none⟩ = some (.bool (endB l 1)) := by rw [cell_block (set_block (set_block (HZ.out) 0 _) 1 _)]; rfl
      have c2 : wr.cell? ⟨w.heap.size + 1, 2, none⟩ = some (.bool (endB l 2)) := by rw [cell_block HB.out]; rfl
      have z2 : wr.cell? ⟨w.heap.size, 2, none⟩ = some (.bool false) := by rw [cell_block HZ.out]; rfl
      have f2 := froz_block HZ.out 2
      have s2 : ((((wr).setCell ⟨w.heap.size, 0, none⟩ (.bool (endB l 0))).setCell ⟨w.heap.size, 1, none⟩ (.bool (endB l 1))).setCell ⟨w.heap.size, 2, none⟩ (.bool (endB l 2))).cell? ⟨w.heap.size, 2, none⟩ = some (.bool (endB l 2)) := by rw [cell_block (set_block (set_block (set_block (HZ.out) 0 _) 1 _) 2 _)]; rfl
      have c3 : wr.cell? ⟨w.heap.size + 1, 3, none⟩ = some (.bool (endB l 3)) := by rw [cell_block HB.out]; rfl
      have z3 : wr.cell? ⟨w.heap.size, 3, none⟩ = some (.bool false) := by rw [cell_block HZ.out]; rfl
      have f3 := froz_block HZ.out 3
      have s3 : (((((wr).setCell ⟨w.heap.size, 0, none⟩ (.bool (endB l 0))).setCell ⟨w.heap.size, 1, none⟩ (.bool (endB l 1))).setCell ⟨w.heap.size, 2, none⟩ (.bool (endB l 2))).setCell ⟨w.heap.size, 3, none⟩ (.bool (endB l 3))).cell? ⟨w.heap.size, 3, none⟩ = some (.bool (endB l 3)) := by rw [cell_block (set_block (set_block (set_block (set_block (HZ.out) 0 _) 1 _) 2 _) 3 _)]; rfl
      have c4 : wr.cell? ⟨w.heap.size + 1, 4, none⟩ = some (.bool (endB l 4)) := by rw [cell_block HB.out]; rfl
      have z4 : wr.cell? ⟨w.heap.size, 4, none⟩ = some (.bool false) := by rw [cell_block HZ.out]; rfl
      have f4 := froz_block HZ.out 4
      have s4 : ((((((wr).setCell ⟨w.heap.size, 0, none⟩ (.bool (endB l 0))).setCell ⟨w.heap.size, 1, none⟩ (.bool (endB l 1))).setCell ⟨w.heap.size, 2, none⟩ (.bool (endB l 2))).setCell ⟨w.heap.size, 3, none⟩ (.bool (endB l 3))).setCell ⟨w.heap.size, 4, none⟩ (.bool (endB l 4))).cell? ⟨w.heap.size, 4, none⟩ = some (.bool (endB l 4)) := by rw [cell_block (set_block (set_block (set_block (set_block (set_block (HZ.out) 0 _) 1 _) 2 _) 3 _) 4 _)]; rfl
      have c5 : wr.cell? ⟨w.heap.size + 1, 5, none⟩ = some (.bool (endB l 5)) := by rw [cell_block HB.out]; rfl
      have z5 : wr.cell? ⟨w.heap.size, 5, none⟩ = some (.bool false) := by rw [cell_block HZ.out]; rfl
      have f5 := froz_block HZ.out 5
      have s5 : (((((((wr).setCell ⟨w.heap.size, 0, none⟩ (.bool (endB l 0))).setCell ⟨w.heap.size, 1, none⟩ (.bool (endB l 1))).setCell ⟨w.heap.size, 2, none⟩ (.bool (endB l 2))).setCell ⟨w.heap.size, 3, none⟩ (.bool (endB l 3))).setCell ⟨w.heap.size, 4, none⟩ (.bool (endB l 4))).setCell ⟨w.heap.size, 5, none⟩ (.bool (endB l 5))).cell? ⟨w.heap.size, 5, none⟩ = some (.bool (endB l 5)) := by rw [cell_block (set_block (set_block (set_block (set_block (set_block (set_block (HZ.out) 0 _) 1 _) 2 _) 3 _) 4 _) 5 _)]; rfl
      have c6 : wr.cell? ⟨w.heap.size + 1, 6, none⟩ = some (.bool (endB l 6)) := by rw [cell_block HB.out]; rfl
      have z6 : wr.cell? ⟨w.heap.size, 6, none⟩ = some (.bool false) := by rw [cell_block HZ.out]; rfl
      have f6 := froz_block HZ.out 6
      have s6 : ((((((((wr).setCell ⟨w.heap.size, 0, none⟩ (.bool (endB l 0))).setCell ⟨w.heap.size, 1, none⟩ (.bool (endB l 1))).setCell ⟨w.heap.size, 2, none⟩ (.bool (endB l 2))).setCell ⟨w.heap.size, 3, none⟩ (.bool (endB l 3))).setCell ⟨w.heap.size, 4, none⟩ (.bool (endB l 4))).setCell ⟨w.heap.size, 5, none⟩ (.bool (endB l 5))).setCell ⟨w.heap.size, 6, none⟩ (.bool (endB l 6))).cell? ⟨w.heap.size, 6, none⟩ = some (.bool (endB l 6)) := by rw [cell_block (set_block (set_block (set_block (set_block (set_block (set_block (set_block (HZ.out) 0 _) 1 _) 2 _) 3 _) 4 _) 5 _) 6 _)]; rfl
      have c7 : wr.cell? ⟨w.heap.size + 1, 7, none⟩ = some (.bool (endB l 7)) := by rw [cell_block HB.out]; rfl
      have z7 : wr.cell? ⟨w.heap.size, 7, none⟩ = some (.bool false) := by rw [cell_block HZ.out]; rfl
      have f7 := froz_block HZ.out 7
      have s7 : (((((((((wr).setCell ⟨w.heap.size, 0, none⟩ (.bool (endB l 0))).setCell ⟨w.heap.size, 1, none⟩ (.bool (endB l 1))).setCell ⟨w.heap.size, 2, none⟩ (.bool (endB l 2))).setCell ⟨w.heap.size, 3, none⟩ (.bool (endB l 3))).setCell ⟨w.heap.size, 4, none⟩ (.bool (endB l 4))).setCell ⟨w.heap.size, 5, none⟩ (.bool (endB l 5))).setCell ⟨w.heap.size, 6, none⟩ (.bool (endB l 6))).setCell ⟨w.heap.size, 7, none⟩ (.bool (endB l 7))).cell? ⟨w.heap.size, 7, none⟩ = some (.bool (endB l 7)) := by rw [cell_block (set_block (set_block (set_block (set_block (set_block (set_block (set_block (set_block (HZ.out) 0 _) 1 _) 2 _) 3 _) 4 _) 5 _) 6 _) 7 _)]; rfl
      clear hd hbw
      go_wp2_with fail
      all_goals go_tidy
      refine ⟨rfl, .agg (endArr l), by simp [results, Try.results24, go_sem, endArr, s0, s1, s2, s3, s4, s5, s6, s7], rfl, ?_⟩
      repeat (first | (with_reducible exact HW.out) | (with_reducible refine Below.setCell ?_ (by simp) _))
end Go.Proofs.Ytnicjpfkiblimaa
