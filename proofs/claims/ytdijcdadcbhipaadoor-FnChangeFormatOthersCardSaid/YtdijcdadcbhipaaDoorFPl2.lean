/-
  A change and the change back; equal columns.
-/
import Derived.Test.YtdijcdadcbhipaaDoorFPl
import Derived.Test.YtdijcdadcbhipaaDoorFEq
set_option linter.all false
namespace Go.Proofs.YtdijcdadcbhipaaDoor
open Go.RowKit
theorem back_add {f G : List RCol} {c : RChg} {i : Nat} (hGv : fmtB G = true) (hf : fmtB f = true) (hG : G = newC f c) (e : newC f c = f.take i ++ [c.c] ++ f.drop i) (hil : i ≤ f.length) : chC G ⟨2, (i : Int), ⟨0, ⟨0, 0, ⟨#[]⟩⟩⟩⟩ = some f := by
  have hl := (fmt_len2 hf).1
  have hgl : G.length = f.length + 1 := by rw [hG, e]; simp; omega
  unfold chC
  rw [hGv]
  have hp : posB G ⟨2, (i : Int), ⟨0, ⟨0, 0, ⟨#[]⟩⟩⟩⟩ = true := by
    unfold posB; rw [if_neg (by simp), if_pos rfl, hgl]; simp; omega
  rw [hp]
  simp only [Bool.and_self, if_true]
  congr 1
  unfold newC
  rw [if_neg (by simp), if_pos rfl, Int.toNat_natCast, hG, e, List.append_assoc, take_app f _ i hil, drop_app f _ i 1 hil]
  simp
theorem back_drop {f G : List RCol} {c : RChg} {i : Nat} (hGv : fmtB G = true) (hf : fmtB f = true) (hG : G = newC f c) (e : newC f c = f.take i ++ f.drop (i + 1)) (hlt : i < f.length) (h2 : 1 < f.length) : chC G ⟨1, (i : Int), ⟨f[i].k, ⟨f[i].d.k, f[i].d.n, f[i].d.s⟩⟩⟩ = some f := by
  show chC G ⟨1, (i : Int), f[i]⟩ = some f
  have hl := (fmt_len2 hf).2
  have hgl : G.length = f.length - 1 := by rw [hG, e]; simp; omega
  unfold chC
  rw [hGv]
  have hp : posB G ⟨1, (i : Int), f[i]⟩ = true := by
    unfold posB; rw [if_pos rfl, hgl]
    have := hl.2 _ (List.getElem_mem hlt)
    simp [this]; omega
  rw [hp]
  simp only [Bool.and_self, if_true]
  congr 1
  unfold newC
  rw [if_pos rfl, Int.toNat_natCast, hG, e, take_app f _ i (by omega)]
  have := drop_app f (f.drop (i + 1)) i 0 (by omega)
  rw [Nat.add_zero] at this
  rw [this, List.drop_zero, List.append_assoc, List.singleton_append, ← List.drop_eq_getElem_cons hlt, List.take_append_drop]
theorem eql_col (e : RCol) (w : World) : (binOp .eql 27 (.agg #[.int .i64 e.k, .int .i64 e.d.k, .int .i64 e.d.n, .string e.d.s]) (.agg #[.int .i64 e.k, .int .i64 e.d.k, .int .i64 e.d.n, .string e.d.s])).run Tryd.prog w = .ok (.bool true) w := by
  have us := Tryd.underlying9
  have ui := Tryd.underlying3
  have hS : Tryd.prog.underlying 27 = some (.struct (Tryd.prog.fieldsOf 27)) := by kernel_rfl
  have hp : Tryd.prog.stoodInHeld 27 = false := by kernel_rfl
  have hv := eqin_val 9995 e.d
  rw [run_eql_struct, show (10000 : Nat) = 9999 + 1 from rfl, run_equalIn_agg w 9999 27 _ _ hS hp]
  simp only [Program.fieldsOf, Tryd.underlying27]
  go_simp
theorem guard_colE (e : RCol) (x y : Operand) (w : World) : (eqGuard .eql 27 x y (.agg #[.int .i64 e.k, .int .i64 e.d.k, .int .i64 e.d.n, .string e.d.s]) (.agg #[.int .i64 e.k, .int .i64 e.d.k, .int .i64 e.d.n, .string e.d.s])).run Tryd.prog w = .ok () w :=
  run_eqGuard_agg w .eql 27 x y _ _ (by kernel_rfl)
end Go.Proofs.YtdijcdadcbhipaaDoor
