/-
  Lemmas for TreeInsert and TreeDelete of the specification.
-/
import Derived.Test.YtmlphdniiiijpaaTreeS3
import Derived.Test.YtmlphdniiiijpaaTreeK
import Derived.Deep.DeepCutAuto
set_option linter.all false
namespace Go.Proofs.Ytmlphdniiiijpaa
open Go.RowKit
def SChRet (w : World) (ok : Prop) (s : List (List Itm)) (e : Ending) (w' : World) : Prop := ∃ rv r b, e = .returned (.tuple #[.agg #[rv], .bool b]) ∧ ChgOf ok s r b ∧ OwnR w.heap.size w' rv r ∧ Below w.heap.size w w'
theorem lvs_none (w : World) : Lvs w (.slice none 0 0) [] := ⟨none, 0, rfl, by simp, by omega, .inl rfl⟩
theorem schRet_no {w w' : World} {ok : Prop} {s : List (List Itm)} (h : ¬ ok) (hb : Below w.heap.size w w') : SChRet w ok s (.returned (.tuple #[.agg #[.slice none 0 0], .bool false])) w' := ⟨_, [], false, rfl, ⟨fun q => absurd q h, fun _ => ⟨rfl, rfl⟩⟩, ownR_none _ _, hb⟩
theorem schRet_yes {w w' : World} {ok : Prop} {s : List (List Itm)} {rv : Value} (h : ok) (ho : OwnR w.heap.size w' rv s) (hb : Below w.heap.size w w') : SChRet w ok s (.returned (.tuple #[.agg #[rv], .bool true])) w' := ⟨_, s, true, rfl, ⟨fun _ => ⟨rfl, rfl⟩, fun q => absurd h q⟩, ho, hb⟩
theorem withLeaves1_any (v : Value) (t : List (List Itm)) (lv : Value) (ys : List Value) (gs : List (List Itm)) (p : Nat) (w : World) (h : Lvs w v t) (hnw : News w lv ys) (hys : ys.length = gs.length ∧ ∀ i (h : i < gs.length), ∃ lv, ys[i]? = some lv ∧ Itms w lv gs[i] ∧ NilOk lv) (hg2 : gs.length ≤ 2)
    (ht : t.length ≤ 1000) (hp : p < t.length) (hls : ∀ g ∈ t, g.length ≤ 1000) :
    Calls Try.prog 61 #[.agg #[v], .int .i64 (p : Int), .int .i64 1, lv] w (LGRet w (withG t p 1 gs t.length)) := withLeaves_any v t lv ys gs p 1 w h hnw hys hg2 (by decide) (by decide) ht hp hls
theorem lfs_one {w : World} {lv : Value} {f : List Itm} (h : Itms w lv f) (hn : NilOk lv) : [lv].length = [f].length ∧ ∀ i (h : i < [f].length), ∃ u, [lv][i]? = some u ∧ Itms w u [f][i] ∧ NilOk u :=
  ⟨rfl, fun i hi => by
    have : i = 0 := by simp at hi; exact hi
    subst this
    exact ⟨lv, rfl, h, hn⟩⟩
theorem lfs_two {w : World} {lv lu : Value} {f g : List Itm} (h : Itms w lv f) (hn : NilOk lv) (h' : Itms w lu g) (hn' : NilOk lu) : [lv, lu].length = [f, g].length ∧ ∀ i (h : i < [f, g].length), ∃ u, [lv, lu][i]? = some u ∧ Itms w u [f, g][i] ∧ NilOk u :=
  ⟨rfl, fun i hi => by
    match i, hi with
    | 0, _ => exact ⟨lv, rfl, h, hn⟩
    | 1, _ => exact ⟨lu, rfl, h', hn'⟩⟩
/-- a store into the box of the result -/
theorem Lvs.box {w : World} {v u : Value} {fs : List (List Itm)} {g : Nat} {a0 : Option Addr} {n0 c0 : Nat} {ty : TypeId} (h : Lvs w v fs) (hb : w.heap[g]? = some (.cells #[.slice a0 n0 c0] ty (0, 0))) (hne : ∀ a n c, v = .slice (some a) n c → fs ≠ [] → a.block ≠ g) : Lvs (w.setCell ⟨g, 0, none⟩ u) v fs := by
  obtain ⟨a, cap, rfl, h1, h2, hd⟩ := h
  refine ⟨a, cap, rfl, h1, h2, ?_⟩
  rcases hd with hd | ⟨b, off, rfl, hlt, hc⟩
  · exact .inl hd
  · by_cases hfs : fs = []
    · exact .inl hfs
    have hbg : b ≠ g := hne _ _ _ rfl hfs
    refine .inr ⟨b, off, rfl, by simp [World.setCell]; exact hlt, fun i hi => ?_⟩
    obtain ⟨lv, e1, e2, e3⟩ := hc i hi
    refine ⟨lv, (World.cell?_of_block (a := ⟨b, off + i, none⟩) (Below.heap_setCell w ⟨g, 0, none⟩ u b hbg)).trans e1, e2.kept (grown_setCell _ _ _ _) (fun hf a n c e q => ?_), e3⟩
    obtain ⟨a', cap', e', -, -, hd'⟩ := e2
    obtain ⟨b', off', e2, -, hc'⟩ := hd'.resolve_left hf
    rw [e] at e'
    injection e' with e' _ _
    rw [← e'] at e2
    injection e2 with e2
    subst e2
    injection q with q
    simp only at q
    subst q
    have h0 := (hc' 0 (List.length_pos_iff.2 hf)).1
    rw [cell_block hb] at h0
    rcases Nat.eq_zero_or_pos (off' + 0 * 2) with hz | hz
    · rw [hz] at h0; simp at h0
    · rw [Array.getElem?_eq_none (by simp; omega)] at h0; cases h0
end Go.Proofs.Ytmlphdniiiijpaa
