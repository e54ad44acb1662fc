/-
  find, isTable of the reference; hasTable of the program.
-/
import Derived.Test.YteikeljklfblmaaEnt
set_option linter.all false
namespace Go.Proofs.Yteikeljklfblmaa
open Go.RowKit
def hasTB (l : List Ent) (nm : ByteArray) : Bool := match l.find? (fun e => eqS e.n nm) with | some e => mtB e.t | none => false
theorem findI_cases (l : List Ent) (nm : ByteArray) : (∃ (k : Nat) (h : k < l.length), findI l nm = (k : Int) ∧ hasTB l nm = mtB l[k].t ∧ eqS l[k].n nm = true ∧ ∀ j (hj : j < k), eqS (l[j]'(by omega)).n nm = false) ∨ (findI l nm = -1 ∧ hasTB l nm = false ∧ ∀ j (hj : j < l.length), eqS l[j].n nm = false) := by
  unfold findI hasTB
  rw [List.find?_eq_bind_findIdx?_getElem?]
  cases h : l.findIdx? (fun e => eqS e.n nm) with
  | none =>
    refine .inr ⟨rfl, rfl, fun j hj => ?_⟩
    rw [List.findIdx?_eq_none_iff] at h
    exact h _ (List.getElem_mem hj)
  | some k =>
    rw [List.findIdx?_eq_some_iff_getElem] at h
    obtain ⟨hk, h1, h2⟩ := h
    exact .inl ⟨k, hk, rfl, by simp [hk], h1, fun j hj => by simpa using h2 j hj⟩
set_option maxHeartbeats 2000000 in
theorem sfind_any (nm : ByteArray) (v : Value) (l : List Ent) (w : World) (h : Ents w v l) :
    Calls Try.prog 47 #[v, .string nm] w fun e w' => e = .returned (.int .i64 (findI l nm)) ∧ w = w' := by
  obtain ⟨a, cap, rfl, hl, hcap, hd⟩ := h
  go_enter Try.func47, Try.ntmps47
  go_wp2_with fail
  go_loopg [5] l.length (fun gk s8 wr => w = wr ∧ ∃ k : Nat, k + gk = l.length ∧ s8 = .int .i64 (k : Int) ∧ ∀ j (hj : j < k) (hl : j < l.length), eqS l[j].n nm = false)
  case atStart => exact ⟨rfl, 0, by omega, rfl, fun j hj => by omega⟩
  case round =>
    obtain ⟨rfl, k, hk, rfl, hno⟩ := hrel
    have HN := hide hno
    clear hno
    by_cases hlt : k < l.length
    · obtain ⟨b, off, rfl, hbb, hcell⟩ := hd.resolve_left (by rintro rfl; simp at hlt)
      obtain ⟨e0, e1, e2, -⟩ := hcell k hlt
      clear hcell hd
      by_cases hq : eqS l[k].n nm = true
      · have HF := hide (findI_at hlt hq fun j hj => HN.out j hj (by omega))
        unfold eqS at hq
        generalize l[k] = e at *
        go_wp2_with fail
        go_ret
        exact ⟨ret_int HF.out.symm, rfl⟩
      · have hq' : eqS l[k].n nm = false := by simpa using hq
        have HQ := hide hq'
        clear hq
        have HN' : Hid (∀ j (hj : j < k + 1) (hl : j < l.length), eqS l[j].n nm = false) := fun j hj hl => by
          by_cases hjk : j = k
          · subst hjk; exact HQ.out
          · exact HN.out j (by omega) hl
        clear HQ
        unfold eqS at hq'
        generalize l[k] = e at *
        go_wp2_with fail
        go_roundg (gk - 1)
        case measure => omega
        case rel => exact ⟨rfl, k + 1, by omega, by go_num, HN'.out⟩
    · have hkl : k = l.length := by omega
      have HF := hide (findI_none (l := l) (nm := nm) fun j hj => HN.out j (by omega) hj)
      clear hd hkl
      go_wp2_with fail
      go_ret
      exact ⟨ret_int HF.out.symm, rfl⟩
set_option maxHeartbeats 2000000 in
theorem sisTable_any (nm : ByteArray) (v : Value) (l : List Ent) (w : World) (h : Ents w v l) :
    Calls Try.prog 49 #[v, .string nm] w fun e w' => e = .returned (.bool (hasTB l nm)) ∧ w = w' := by
  have CF := hide (sfind_any nm v l w h)
  obtain ⟨a, cap, rfl, hl, hcap, hd⟩ := h
  rcases findI_cases l nm with ⟨k, hk, hf, ht, -⟩ | ⟨hf, ht, -⟩
  · obtain ⟨b, off, rfl, hbb, hcell⟩ := hd.resolve_left (by rintro rfl; simp at hk)
    obtain ⟨e0, e1, e2, -⟩ := hcell k hk
    rw [hf] at CF
    rw [ht]
    clear hcell hd hf ht
    unfold mtB
    generalize l[k] = e at *
    go_enter Try.func49, Try.ntmps49
    go_wp2_with fail
    refine CF.out.mono ?_
    rintro e' w' ⟨rfl, rfl⟩
    go_wp2_with fail
    go_ret
    exact ⟨rfl, rfl⟩
  · rw [hf] at CF
    rw [ht]
    clear hd hf ht
    go_enter Try.func49, Try.ntmps49
    go_wp2_with fail
    refine CF.out.mono ?_
    rintro e' w' ⟨rfl, rfl⟩
    go_wp2_with fail
    go_ret
    exact ⟨rfl, rfl⟩
set_option maxHeartbeats 2000000 in
theorem hasTable_any (nm : ByteArray) (v : Value) (l : List Ent) (w : World) (h : Ents w v l) :
    Calls Try.prog 43 #[v, .string nm] w fun e w' => e = .returned (.bool (hasTB l nm)) ∧ Below w.heap.size w w' := by
  have CF := hide (findEntry_any nm v l w h)
  obtain ⟨a, cap, rfl, hl, hcap, hd⟩ := h
  rcases findI_cases l nm with ⟨k, hk, hf, ht, -⟩ | ⟨hf, ht, -⟩
  · obtain ⟨b, off, rfl, hbb, hcell⟩ := hd.resolve_left (by rintro rfl; simp at hk)
    have HE := hide (hcell k hk)
    rw [hf] at CF
    rw [ht]
    clear hcell hd hf ht
    generalize l[k] = e at *
    go_enter Try.func43, Try.ntmps43
    go_wp2_with fail
    refine CF.out.mono ?_
    rintro e' w1 ⟨rfl, hb1⟩
    obtain ⟨e0, e1, e2, -⟩ := HE.out.keep hb1
    have H1 := hide hb1
    clear hb1
    go_wp2_with fail
    refine (isTableM_any _ _ _ _).mono ?_
    rintro e' w2 ⟨rfl, hb2⟩
    have H2 : Hid (Below w.heap.size w w2) := H1.out.trans (hb2.mono H1.out.size)
    clear hb2
    go_wp2_with fail
    go_ret
    exact ⟨rfl, H2.out⟩
  · rw [hf] at CF
    rw [ht]
    clear hd hf ht
    go_enter Try.func43, Try.ntmps43
    go_wp2_with fail
    refine CF.out.mono ?_
    rintro e' w1 ⟨rfl, hb1⟩
    have H1 := hide hb1
    clear hb1
    go_wp2_with fail
    go_ret
    exact ⟨rfl, H1.out⟩
end Go.Proofs.Yteikeljklfblmaa
