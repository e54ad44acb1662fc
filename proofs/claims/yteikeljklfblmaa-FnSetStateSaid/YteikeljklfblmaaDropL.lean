/-
  What DropEntry returns: its length and the sizes of its texts.
-/
import Derived.Test.YteikeljklfblmaaClone
set_option linter.all false
namespace Go.Proofs.Yteikeljklfblmaa
theorem dropR_len (l : List Ent) (nm : ByteArray) : (dropR l nm).length ≤ l.length := by
  unfold dropR; split
  · exact List.length_filter_le _ _
  · simp
theorem dropR_sizes {l : List Ent} (h : ∀ e ∈ l, e.n.size ≤ 9223372036854775807 ∧ e.t.size ≤ 9223372036854775807) (nm : ByteArray) : ∀ e ∈ dropR l nm, e.n.size ≤ 9223372036854775807 ∧ e.t.size ≤ 9223372036854775807 := by
  unfold dropR; split
  · intro e he; exact h e (List.mem_filter.1 he).1
  · simp
end Go.Proofs.Yteikeljklfblmaa
