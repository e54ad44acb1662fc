/-
  Entries of a catalog in memory; isTable, findEntry, find, hasTable.
-/
import Derived.Test.YteikeljklfblmaaName
import Derived.Test.YteikeljklfblmaaQuiet
set_option linter.all false
namespace Go.Proofs.Yteikeljklfblmaa
open Go.RowKit
structure Ent where
  n : ByteArray
  t : ByteArray
  s : Int
/-- the text is empty -/
def mtB (t : ByteArray) : Bool := t.toList.isEmpty
def eqS (a b : ByteArray) : Bool := a.toList == b.toList
set_option maxHeartbeats 1000000 in
theorem isTableM_any (n t : ByteArray) (s : Int) (w : World) :
    Calls Try.prog 42 #[.agg #[.string n, .string t, .int .i64 s]] w fun e w' => e = .returned (.bool (mtB t)) ∧ Below w.heap.size w w' := by
  go_enter Try.func42, Try.ntmps42
  go_wp2
  go_ret
  exact ⟨rfl, (Below.refl _ _).alloc (Nat.le_refl _) _⟩
theorem close_any (B : Nat) (nm n t : ByteArray) (s : Int) (w : World) (hc : w.cell? ⟨B, 0, none⟩ = some (.string nm)) :
    Calls Try.prog 56 #[.agg #[.string n, .string t, .int .i64 s], .pointer (some ⟨B, 0, none⟩)] w fun e w' => e = .returned (.bool (eqS n nm)) ∧ Below w.heap.size w w' := by
  have hB : B < w.heap.size := lt_cell hc
  go_enter Try.func56, Try.ntmps56
  go_wp2
  go_ret
  exact ⟨rfl, (Below.refl _ _).alloc (Nat.le_refl _) _⟩
/-- the three cells of an entry in memory -/
def EntAt (w : World) (b o : Nat) (e : Ent) : Prop := w.cell? ⟨b, o, none⟩ = some (.string e.n) ∧ w.cell? ⟨b, o + 1, none⟩ = some (.string e.t) ∧ w.cell? ⟨b, o + 2, none⟩ = some (.int .i64 e.s) ∧ e.n.size ≤ 9223372036854775807 ∧ e.t.size ≤ 9223372036854775807
/-- a slice of entries that can be read -/
def Ents (w : World) (v : Value) (l : List Ent) : Prop :=
  ∃ a cap, v = .slice a l.length cap ∧ l.length ≤ cap ∧ cap ≤ 9223372036854775807 ∧ (l = [] ∨ ∃ b off, a = some ⟨b, off, none⟩ ∧ b < w.heap.size ∧ ∀ i (h : i < l.length), EntAt w b (off + i * 3) l[i])
theorem EntAt.keep {w w' : World} {b o : Nat} {e : Ent} (h : EntAt w b o e) (hb : Below w.heap.size w w') : EntAt w' b o e := by
  have hlt : b < w.heap.size := lt_cell h.1
  exact ⟨(hb.cell (p := ⟨b, o, none⟩) hlt).trans h.1, (hb.cell (p := ⟨b, o + 1, none⟩) hlt).trans h.2.1, (hb.cell (p := ⟨b, o + 2, none⟩) hlt).trans h.2.2.1, h.2.2.2⟩
theorem Ents.keep {w w' : World} {v : Value} {l : List Ent} (h : Ents w v l) (hb : Below w.heap.size w w') : Ents w' v l := by
  obtain ⟨a, cap, hv, h1, h2, h3⟩ := h
  refine ⟨a, cap, hv, h1, h2, ?_⟩
  rcases h3 with h3 | ⟨b, off, e, hlt, hc⟩
  · exact .inl h3
  · exact .inr ⟨b, off, e, Nat.lt_of_lt_of_le hlt hb.size, fun i hi => (hc i hi).keep hb⟩
def findI (l : List Ent) (nm : ByteArray) : Int := match l.findIdx? (fun e => eqS e.n nm) with | some k => (k : Int) | none => -1
theorem findI_at {l : List Ent} {nm : ByteArray} {k : Nat} (h : k < l.length) (h1 : eqS l[k].n nm = true) (h2 : ∀ j (hj : j < k), eqS (l[j]'(by omega)).n nm = false) : findI l nm = (k : Int) := by
  have : l.findIdx? (fun e => eqS e.n nm) = some k := by
    rw [List.findIdx?_eq_some_iff_getElem]
    exact ⟨h, h1, fun j hj => by simpa using h2 j hj⟩
  simp [findI, this]
theorem findI_none {l : List Ent} {nm : ByteArray} (h2 : ∀ j (hj : j < l.length), eqS l[j].n nm = false) : findI l nm = -1 := by
  have : l.findIdx? (fun e => eqS e.n nm) = none := by
    rw [List.findIdx?_eq_none_iff]
    intro x hx
    obtain ⟨j, hj, rfl⟩ := List.getElem_of_mem hx
    exact h2 j hj
  simp [findI, this]
set_option maxHeartbeats 2000000 in
theorem indexFunc_any (B : Nat) (nm : ByteArray) (v : Value) (l : List Ent) (w : World) (h : Ents w v l) (hc : w.cell? ⟨B, 0, none⟩ = some (.string nm)) :
    Calls Try.prog 55 #[v, .func (.func 56) #[] #[.pointer (some ⟨B, 0, none⟩)]] w fun e w' => e = .returned (.int .i64 (findI l nm)) ∧ Below w.heap.size w w' := by
  obtain ⟨a, cap, rfl, hl, hcap, hd⟩ := h
  have hB : B < w.heap.size := lt_cell hc
  go_enter Try.func55, Try.ntmps55
  go_wp2_with fail
  go_loopg [8] l.length (fun gk s8 wr => Below w.heap.size w wr ∧ ∃ k : Nat, k + gk = l.length ∧ s8 = .int .i64 (k : Int) ∧ ∀ j (hj : j < k) (hl : j < l.length), eqS l[j].n nm = false)
  case atStart => exact ⟨Below.refl _ _, 0, by omega, rfl, fun j hj => by omega⟩
  case round =>
    obtain ⟨hbw, k, hk, rfl, hno⟩ := hrel
    have HW := hide hbw
    have HN := hide hno
    have HC := hide ((hbw.cell (p := ⟨B, 0, none⟩) hB).trans hc)
    clear hbw hno hc
    by_cases hlt : k < l.length
    · obtain ⟨b, off, rfl, hbb, hcell⟩ := hd.resolve_left (by rintro rfl; simp at hlt)
      have E := hide ((hcell k hlt).keep HW.out)
      obtain ⟨e0, e1, e2, -⟩ := (hcell k hlt).keep HW.out
      clear hcell hd
      clear E
      have HW2 : Hid (∀ w', Below wr.heap.size wr w' → Below w.heap.size w w') := fun w' hb => HW.out.trans (hb.mono HW.out.size)
      by_cases hq : eqS l[k].n nm = true
      · have HF := hide (findI_at hlt hq fun j hj => HN.out j hj (by omega))
        generalize l[k] = e at *
        go_wp2_with fail
        refine (close_any B nm _ _ _ _ HC.out).mono ?_
        rintro e' w' ⟨rfl, hb'⟩
        have H' := hide (HW2.out _ hb')
        clear hb'
        go_wp2_with fail
        go_ret
        exact ⟨ret_int HF.out.symm, H'.out⟩
      · have hq' : eqS l[k].n nm = false := by simpa using hq
        have HQ := hide hq'
        clear hq
        have HN' : Hid (∀ j (hj : j < k + 1) (hl : j < l.length), eqS l[j].n nm = false) := fun j hj hl => by
          by_cases hjk : j = k
          · subst hjk; exact HQ.out
          · exact HN.out j (by omega) hl
        clear HQ
        generalize l[k] = e at *
        go_wp2_with fail
        refine (close_any B nm _ _ _ _ HC.out).mono ?_
        rintro e' w' ⟨rfl, hb'⟩
        have H' := hide (HW2.out _ hb')
        clear hb'
        go_wp2_with fail
        go_roundg (gk - 1)
        case measure => omega
        case rel => exact ⟨H'.out, k + 1, by omega, by go_num, HN'.out⟩
    · have hkl : k = l.length := by omega
      have HF := hide (findI_none (l := l) (nm := nm) fun j hj => HN.out j (by omega) hj)
      clear hd hkl
      go_wp2_with fail
      go_ret
      exact ⟨ret_int HF.out.symm, HW.out⟩
set_option maxHeartbeats 2000000 in
theorem findEntry_any (nm : ByteArray) (v : Value) (l : List Ent) (w : World) (h : Ents w v l) :
    Calls Try.prog 41 #[v, .string nm] w fun e w' => e = .returned (.int .i64 (findI l nm)) ∧ Below w.heap.size w w' := by
  have hB : Below w.heap.size w (w.alloc (.cells #[.string nm] 9)) := (Below.refl _ _).alloc (Nat.le_refl _) _
  have h' := hide (h.keep hB)
  have HB := hide hB
  clear hB
  obtain ⟨a, cap, rfl, -⟩ := h
  have hmf : ∀ (fn : Fn) (first cap : Array Value) (w : World), (Instr.makeFunc fn first cap).run Try.prog w = .ok (.func fn first cap) w := fun _ _ _ _ => rfl
  go_enter Try.func41, Try.ntmps41
  go_wp2_with fail
  refine (indexFunc_any _ nm _ l _ h'.out (by simp)).mono ?_
  rintro e w1 ⟨rfl, hb1⟩
  have H1 : Hid (Below w.heap.size w w1) := HB.out.trans (hb1.mono (by simp))
  clear hb1
  go_wp2_with fail
  go_ret
  exact ⟨rfl, H1.out⟩
end Go.Proofs.Yteikeljklfblmaa
