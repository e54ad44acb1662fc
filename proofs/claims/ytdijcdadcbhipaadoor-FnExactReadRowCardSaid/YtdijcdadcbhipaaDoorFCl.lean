/-
  slices.Clone at columns and at values.
-/
import Derived.Test.YtdijcdadcbhipaaDoorFWid
set_option linter.all false
namespace Go.Proofs.YtdijcdadcbhipaaDoor
open Go.RowKit
theorem infoC : (Tryd.prog.info? 27).map (fun i => (i.zero, i.size, i.bytes)) = some (some (.agg #[.int .i64 0, .int .i64 0, .int .i64 0, .string ⟨#[]⟩]), 4, 40) := by kernel_rfl
theorem infoV : (Tryd.prog.info? 25).map (fun i => (i.zero, i.size, i.bytes)) = some (some (.agg #[.int .i64 0, .int .i64 0, .string ⟨#[]⟩]), 3, 32) := by kernel_rfl
def OwnC (B : Nat) (w : World) (v : Value) (l : List RCol) : Prop := OwnR cEnc 4 27 B w v l
def OwnV (B : Nat) (w : World) (v : Value) (l : List RVal) : Prop := OwnR vEnc 3 25 B w v l
set_option maxHeartbeats 2000000 in
theorem cloneCNil_any (n c : Nat) (w : World) :
    Calls Tryd.prog 55 #[.slice none n c] w fun e w' => e = .returned (.slice none 0 0) ∧ w' = w := by
  have q22 : ∀ (w : World) (a : Option Addr) (n c n' c' : Nat), (binOp .eql 23 (.slice a n c) (.slice none n' c')).run Tryd.prog w = .ok (.bool a.isNone) w := fun w a n c n' c' => Lib.run_eql_slice_nil w _ _ a n c n' c' Tryd.underlying23
  go_enter Tryd.func55, Tryd.ntmps55
  go_wp2_with fail
  go_ret
  exact ⟨rfl, rfl⟩
set_option maxHeartbeats 2000000 in
theorem cloneC_any (v : Value) (l : List RCol) (w : World) (h : Recs cEnc 4 w v l) (hn : l.length ≤ 1048576) :
    Calls Tryd.prog 55 #[v] w fun e w' => ∃ v', e = .returned v' ∧ OwnC w.heap.size w' v' l ∧ Below w.heap.size w w' := by
  have hh := h.shape
  obtain ⟨a, cap, rfl, hl, hcap⟩ := hh
  have hnews := (h.news' (by decide) cEnc_len).2
  rcases hnews with ⟨rfl, rfl, rfl⟩ | ⟨ad, rfl, hnews⟩
  · refine (cloneCNil_any _ _ w).mono ?_
    rintro e w' ⟨rfl, rfl⟩
    exact ⟨_, rfl, World.ownsRow_nil _ _ _ _, Below.refl _ _⟩
  · have HN := hide hnews
    clear hnews h
    have q22 : ∀ (w : World) (a : Option Addr) (n c n' c' : Nat), (binOp .eql 23 (.slice a n c) (.slice none n' c')).run Tryd.prog w = .ok (.bool a.isNone) w := fun w a n c n' c' => Lib.run_eql_slice_nil w _ _ a n c n' c' Tryd.underlying23
    obtain ⟨i0, hi, hz0, hz1, hz2⟩ := info_parts infoC
    go_enter Tryd.func55, Tryd.ntmps55
    go_wp2_with (at_builtin; refine wpList_append_own _ rfl _ _ 23 rfl w.heap.size 27 i0 _ 4 40 Tryd.underlying23 hi hz0 hz1 hz2 rfl (by decide) _ _ _ rfl (World.ownsRow_made w #[] 0 (Nat.le_refl _) (Nat.zero_le _) (by simp)) ad l.length cap (l.flatMap cEnc) rfl ?qc1 ?qc2 ?qc3 ?qc4 ?qc5 ?qc6 ?_)
    case qc1 => exact flat_len cEnc_len l
    case qc2 =>
      intro j u hj
      exact Lib.cell?_alloc_some _ (HN.out j u hj)
    case qc3 => exact flat_one cEnc_one l
    case qc4 => unfold maxLen; omega
    case qc5 => omega
    case qc6 => simp
    intro v' w1 hown hgrow hnil
    clear hnil
    have HO := hide hown
    have HB : Hid (Below w.heap.size w w1) := ((Below.refl _ w).alloc (Nat.le_refl _) _).grown hgrow (by simp) (by intro k hk; simp [Value.ownBlock] at hk; omega)
    clear hown hgrow
    go_wp2_with fail
    go_ret
    refine ⟨v', rfl, ?_, HB.out⟩
    unfold OwnC OwnR
    first
    | exact HO.out
    | (have := HO.out; simp at this; exact this)
set_option maxHeartbeats 2000000 in
theorem cloneVNil_any (n c : Nat) (w : World) :
    Calls Tryd.prog 69 #[.slice none n c] w fun e w' => e = .returned (.slice none 0 0) ∧ w' = w := by
  have q22 : ∀ (w : World) (a : Option Addr) (n c n' c' : Nat), (binOp .eql 56 (.slice a n c) (.slice none n' c')).run Tryd.prog w = .ok (.bool a.isNone) w := fun w a n c n' c' => Lib.run_eql_slice_nil w _ _ a n c n' c' Tryd.underlying56
  go_enter Tryd.func69, Tryd.ntmps69
  go_wp2_with fail
  go_ret
  exact ⟨rfl, rfl⟩
set_option maxHeartbeats 2000000 in
theorem cloneV_any (v : Value) (l : List RVal) (w : World) (h : Recs vEnc 3 w v l) (hn : l.length ≤ 1048576) :
    Calls Tryd.prog 69 #[v] w fun e w' => ∃ v', e = .returned v' ∧ OwnV w.heap.size w' v' l ∧ Below w.heap.size w w' := by
  have hh := h.shape
  obtain ⟨a, cap, rfl, hl, hcap⟩ := hh
  have hnews := (h.news' (by decide) vEnc_len).2
  rcases hnews with ⟨rfl, rfl, rfl⟩ | ⟨ad, rfl, hnews⟩
  · refine (cloneVNil_any _ _ w).mono ?_
    rintro e w' ⟨rfl, rfl⟩
    exact ⟨_, rfl, World.ownsRow_nil _ _ _ _, Below.refl _ _⟩
  · have HN := hide hnews
    clear hnews h
    have q22 : ∀ (w : World) (a : Option Addr) (n c n' c' : Nat), (binOp .eql 56 (.slice a n c) (.slice none n' c')).run Tryd.prog w = .ok (.bool a.isNone) w := fun w a n c n' c' => Lib.run_eql_slice_nil w _ _ a n c n' c' Tryd.underlying56
    obtain ⟨i0, hi, hz0, hz1, hz2⟩ := info_parts infoV
    go_enter Tryd.func69, Tryd.ntmps69
    go_wp2_with (at_builtin; refine wpList_append_own _ rfl _ _ 56 rfl w.heap.size 25 i0 _ 3 32 Tryd.underlying56 hi hz0 hz1 hz2 rfl (by decide) _ _ _ rfl (World.ownsRow_made w #[] 0 (Nat.le_refl _) (Nat.zero_le _) (by simp)) ad l.length cap (l.flatMap vEnc) rfl ?qc1 ?qc2 ?qc3 ?qc4 ?qc5 ?qc6 ?_)
    case qc1 => exact flat_len vEnc_len l
    case qc2 =>
      intro j u hj
      exact Lib.cell?_alloc_some _ (HN.out j u hj)
    case qc3 => exact flat_one vEnc_one l
    case qc4 => unfold maxLen; omega
    case qc5 => omega
    case qc6 => simp
    intro v' w1 hown hgrow hnil
    clear hnil
    have HO := hide hown
    have HB : Hid (Below w.heap.size w w1) := ((Below.refl _ w).alloc (Nat.le_refl _) _).grown hgrow (by simp) (by intro k hk; simp [Value.ownBlock] at hk; omega)
    clear hown hgrow
    go_wp2_with fail
    go_ret
    refine ⟨v', rfl, ?_, HB.out⟩
    unfold OwnV OwnR
    first
    | exact HO.out
    | (have := HO.out; simp at this; exact this)
end Go.Proofs.YtdijcdadcbhipaaDoor
