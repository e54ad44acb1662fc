/-
  Parts of rows of flat records. No program stands here.
-/
import Derived.Test.YtdijcdadcbhipaaDoorFR
set_option linter.all false
namespace Go.Proofs.YtdijcdadcbhipaaDoor
open Go.RowKit
theorem Recs.at {α : Type} {enc : α → List Value} {k : Nat} {w : World} {v : Value} {l : List α} (h : Recs enc k w v l) (hl : 1 ≤ l.length) : ∃ b off c, v = .slice (some ⟨b, off, none⟩) l.length c ∧ l.length ≤ c ∧ c ≤ 9223372036854775807 := by
  obtain ⟨a, c, rfl, h1, h2, -, h3⟩ := h
  obtain ⟨b, off, rfl, -⟩ := h3.resolve_left (by rintro rfl; simp at hl)
  exact ⟨b, off, c, rfl, h1, h2⟩
theorem Recs.take {α : Type} {enc : α → List Value} {k : Nat} {w : World} {a : Option Addr} {n c : Nat} {l : List α} (h : Recs enc k w (.slice a n c) l) (i : Nat) (hi : i ≤ l.length) : Recs enc k w (.slice a i c) (l.take i) := by
  have := h.sub 0 i (by omega) hi (a' := a) (by obtain ⟨a0, cap, hv, -, -, hn, -⟩ := h; injection hv with e1 e2 e3; subst e1; subst e3; intro h; rw [hn h]) (fun _ b off e => by rw [e]; simp)
  simpa using this
theorem Recs.drop {α : Type} {enc : α → List Value} {k : Nat} {w : World} {b off : Nat} {n c : Nat} {l : List α} (h : Recs enc k w (.slice (some ⟨b, off, none⟩) n c) l) (i : Nat) (hi : i ≤ l.length) : Recs enc k w (.slice (some ⟨b, off + i * k, none⟩) (n - i) (c - i)) (l.drop i) := by
  obtain ⟨a0, cap, hv, -, -, hn, -⟩ := id h
  injection hv with e1 e2 e3
  subst e2
  have := h.sub i l.length hi (Nat.le_refl _) (a' := some ⟨b, off + i * k, none⟩) (fun h => by cases h) (fun _ b' off' e => by injection e with e; injection e with e1 e2 e3; rw [e1, e2])
  rw [List.take_of_length_le (by simp)] at this
  exact this
theorem Recs.drop0 {α : Type} {enc : α → List Value} {k : Nat} {w : World} {ad : Addr} {n c : Nat} {l : List α} (h : Recs enc k w (.slice (some ad) n c) l) (i : Nat) (hi : i ≤ l.length) (hc : c = i) : Recs enc k w (.slice (some ad) (n - i) (c - i)) (l.drop i) := by
  obtain ⟨a0, cap, hv, h1, -, hn, -⟩ := h
  injection hv with e1 e2 e3
  have hl : l.drop i = [] := List.drop_of_length_le (by omega)
  rw [hl]
  exact ⟨some ad, 0, by rw [show n - i = 0 by omega, show c - i = 0 by omega]; rfl, Nat.le_refl _, by omega, (fun h => by cases h), .inl rfl⟩
theorem OwnR.base {α : Type} {enc : α → List Value} {k : Nat} {e : TypeId} {B : Nat} {w : World} {v : Value} {l : List α} (h : OwnR enc k e B w v l) : ∀ k, v.ownBlock = some k → B ≤ k := by
  intro j hj
  rcases h.2 with ⟨rfl, h0⟩ | ⟨g, cap, cur, rfl, hB, hg, h1, h2, _⟩
  · cases hj
  · simp [Value.ownBlock] at hj; omega
end Go.Proofs.YtdijcdadcbhipaaDoor
