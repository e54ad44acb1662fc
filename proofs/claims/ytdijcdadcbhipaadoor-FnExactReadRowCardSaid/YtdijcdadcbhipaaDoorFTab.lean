/-
  From the listed variables of a row to the table of powers of ten: what the walks read.
-/
import Derived.Test.YtdijcdadcbhipaaDoorRows
import Derived.Test.YtdijcdadcbhipaaDoorItoa
import Derived.LaidMore
import Derived.LaidHandle
import Derived.Lib.LaidTab
import Derived.Stop.Joined
set_option linter.all false
namespace Go.Proofs.YtdijcdadcbhipaaDoor
open Go.RowKit
theorem inj_of {P : Program} {n : String} {g k : Nat} (h : P.globalNamed n = some g) (hk : P.globalNamed n = some k) : g = k := Option.some.inj (h.symm.trans hk)
theorem tab_of_is {W : World} {n : String} (hn : Tryd.prog.globalNamed n = some 0) (h : Lib.TabIs Tryd.prog W n .u64 Lib.pow10Tab) : Tab W := by
  unfold Lib.TabIs World.var? at h
  rw [hn] at h
  unfold Tab
  cases ho : W.heap[0]? with
  | none => simp [ho] at h
  | some o =>
    cases o with
    | cells cs t f =>
      simp [ho] at h
      exact ⟨t, f, by rw [← h]⟩
    | _ => simp [ho] at h
theorem laid_third {W : World} {a b : String × DataW Unit} {name : String} {k : IntKind} {zs : List Int} {g : Nat} {t e : TypeId} {n : Nat}
    (hg : Tryd.prog.globalNamed name = some g) (hty : (Tryd.prog.globals[g]?).map (·.type) = some t) (ht : Tryd.prog.underlying t = some (.array n e)) (he : Tryd.prog.underlying e = some (.int k)) (hce : Tryd.prog.cellsOf e = 1) (hct : Tryd.prog.cellsOf t = n)
    (h : laidMet Tryd.prog [a, b, (name, Lib.tabData k zs)] W) : Lib.TabIs Tryd.prog W name k zs := by
  obtain ⟨ps, hv, -⟩ := h
  obtain ⟨g0, t0, cs0, f0, p0, q0, -, -, -, -, hv, -⟩ := hv
  obtain ⟨g1, t1, cs1, f1, p1, q1, -, -, -, -, hv, -⟩ := hv
  obtain ⟨g', t', cs, fuel, p, q, hg', ht', hvar, hd, -, -⟩ := hv
  obtain rfl := Option.some.inj (hg.symm.trans hg')
  obtain rfl := Option.some.inj (hty.symm.trans ht')
  unfold Lib.TabIs
  rw [hvar, ← Lib.cells_of_tab ht he hce hct hd]
theorem tab_of_laid {W : World} (h : laidMetH Tryd.prog Rows.fnChangeFormatRow.laid W) : Tab W := by
  rw [MakeChecks.laidMetH_plain _ _ _ (by kernel_rfl)] at h
  have h' : laidMet Tryd.prog [_, _, (_, Lib.tabData .u64 Lib.pow10Tab)] W := h
  exact tab_of_is (by kernel_rfl) (laid_third (g := 0) (t := 132) (e := 126) (n := 20) (by kernel_rfl) (by kernel_rfl) (by kernel_rfl) (by kernel_rfl) (by kernel_rfl) (by kernel_rfl) h')
end Go.Proofs.YtdijcdadcbhipaaDoor
