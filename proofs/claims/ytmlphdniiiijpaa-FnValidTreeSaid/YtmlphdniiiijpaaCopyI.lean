/-
  append of any items to an empty literal: the copy of a row. validMoves and RowsAfter of the specification.
-/
import Derived.Test.YtmlphdniiiijpaaSpecI
import Derived.Test.YtmlphdniiiijpaaVRows
import Derived.Test.YtmlphdniiiijpaaIScan
set_option linter.all false
namespace Go.Proofs.Ytmlphdniiiijpaa
open Go.RowKit
/-- nil means nil -/
def NilOk (v : Value) : Prop := ∀ n c, v = .slice none n c → c = 0
theorem nilOk_some {b : Addr} {n c : Nat} : NilOk (.slice (some b) n c) := fun _ _ e => by cases e
theorem nilOk_own {B size n : Nat} {e : TypeId} {w : World} {v : Value} {xs : List Value} (h : w.ownsRow B e size v n xs) : NilOk v := fun n' c e => by
  rcases h.2 with ⟨rfl, _⟩ | ⟨g, cap, cur, rfl, _⟩
  · injection e with _ _ e; exact e.symm
  · cases e
theorem wpList_copyI {w : World} {ops : Array Oper} {rest : List Oper} {o : Oper} {a : Act} {Q : Exit → Act → World → Prop} (hgd : o.guard = none) (s x : Operand)
    (ho : o.op = .call { callee := .builtin .append, args := #[s, x], argTypes := #[28, 28] })
    (B g : Nat) (hs : a.eval s = .slice (some ⟨g, 0, none⟩) 0 0) (hown : w.ownsRow B 38 2 (.slice (some ⟨g, 0, none⟩) 0 0) 0 [])
    (v : Value) (l : List Itm) (hx : a.eval x = v) (h : Itms w v l) (hnil : NilOk v) (hn : l.length ≤ 1048576) (hB : B ≤ w.heap.size)
    (hK : ∀ g' cap' w', OwnI B w' (.slice (some ⟨g', 0, none⟩) l.length cap') l → w.grownBy w' (some g) → wpList Try.prog ops Q rest (a.put o.dst (.slice (some ⟨g', 0, none⟩) l.length cap')) w') : wpList Try.prog ops Q (o :: rest) a w := by
  obtain ⟨i0, hi, hz0, hz1, hz2⟩ := info_parts infoI
  obtain ⟨ao, cap, rfl, hl, hcap, hd⟩ := h
  by_cases h0 : l = []
  · subst h0
    refine wpList_append_fits_any w hgd s x 28 ho B 38 i0 2 Try.underlying28 hi hz1 g 0 0 [] hs hown ao 0 cap [] hx rfl (fun e => ⟨rfl, hnil 0 cap (by rw [e]; rfl)⟩) (fun _ _ j u hu => by simp at hu) (fun u hu => by simp at hu) (Nat.le_refl _) ?_
    intro w' h1 h2
    exact hK g 0 w' h1 h2
  · obtain ⟨b, off, rfl, -, hc⟩ := hd.resolve_left h0
    have hpos : 0 < l.length := List.length_pos_iff.2 h0
    refine wpList_append_lies w hgd s x 28 ho B 38 i0 _ 2 16 Try.underlying28 hi hz0 hz1 hz2 rfl (by decide) _ 0 [] hs hown ⟨b, off, none⟩ l.length cap (itmCells l) hx (itmCells_len l) (fun j u hu => by rw [Addr.add_lit]; exact itms_news hc j u hu) (itmCells_one l) hpos (by unfold maxLen; omega) (by omega) hB _ rfl ?_
    intro g' cap' w' h1 h2 _ _
    rw [Nat.zero_add, List.nil_append] at h1
    rw [Nat.zero_add]
    exact hK g' cap' w' h1 h2
end Go.Proofs.Ytmlphdniiiijpaa
