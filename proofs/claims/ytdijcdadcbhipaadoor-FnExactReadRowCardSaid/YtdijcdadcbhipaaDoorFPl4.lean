/-
  Chains of formats in plain terms: steps, lengths, validity, rows along a chain; rows that fit.
-/
import Derived.Test.YtdijcdadcbhipaaDoorFPl
import Derived.Test.YtdijcdadcbhipaaDoorFSr
import Derived.Test.YtdijcdadcbhipaaDoorFCa
set_option linter.all false
namespace Go.Proofs.YtdijcdadcbhipaaDoor
open Go.RowKit
theorem fit_zip {f : List RCol} {r : List RVal} (h : fitB f r = true) : (r.zip f).all fitP = true := by
  unfold fitB at h; simp only [Bool.and_eq_true] at h; exact h.2
theorem fit_mk {f : List RCol} {r : List RVal} (h1 : fmtB f = true) (h2 : r.length = f.length) (h3 : (r.zip f).all fitP = true) : fitB f r = true := by
  unfold fitB; rw [h1, h3, decide_eq_true h2]; rfl
theorem fitP_iff {x : RVal} {c : RCol} : fitP (x, c) = true ↔ valB x = true ∧ (x.k = 0 ∨ x.k = c.k) := by
  unfold fitP fitK; simp
theorem zip_take' : ∀ (r : List RVal) (f : List RCol) (i : Nat), (r.take i).zip (f.take i) = (r.zip f).take i
  | [], _, _ => by simp
  | _ :: _, [], _ => by simp
  | _ :: _, _ :: _, 0 => by simp
  | _ :: r, _ :: f, i + 1 => by simp [zip_take' r f i]
theorem zip_drop' : ∀ (r : List RVal) (f : List RCol) (i : Nat), (r.drop i).zip (f.drop i) = (r.zip f).drop i
  | [], _, _ => by simp
  | _ :: _, [], _ => by simp
  | _ :: _, _ :: _, 0 => by simp
  | _ :: r, _ :: f, i + 1 => by simp [zip_drop' r f i]
theorem fit_new {f : List RCol} {r : List RVal} {c : RChg} (h : fitB f r = true) (hp : posB f c = true) : fitB (newC f c) (newR r c) = true := by
  obtain ⟨h1, h5, hl, hfm, hv⟩ := fit_of h
  have hz := fit_zip h
  have hfn := fmt_new hfm hp
  obtain ⟨i, hi, hil, hc⟩ := pos_at hp
  have ht : c.a.toNat = i := by omega
  have htk : (r.take i).length = (f.take i).length := by rw [List.length_take, List.length_take]; omega
  rcases hc with ⟨hk, -, hcc, e⟩ | ⟨hk, hlt, -, e⟩ | ⟨hk, hlt, hk1, e⟩
  · have er : newR r c = r.take i ++ [c.c.d] ++ r.drop i := by unfold newR; rw [if_pos hk, ht]
    refine fit_mk hfn (by rw [er, e]; simp; omega) ?_
    rw [er, e, List.zip_append (by simp; omega), List.zip_append htk, zip_take', zip_drop', List.all_append, List.all_append, all_take hz, all_drop hz]
    obtain ⟨-, q1, q2⟩ := colB_iff.1 hcc
    have := fitP_iff.2 ⟨q1, q2.symm⟩
    simp [this]
  · have er : newR r c = r.take i ++ r.drop (i + 1) := by unfold newR; rw [if_neg (by omega), if_pos hk, ht]
    refine fit_mk hfn (by rw [er, e]; simp; omega) ?_
    rw [er, e, List.zip_append htk, zip_take', zip_drop', List.all_append, all_take hz, all_drop hz]; rfl
  · have hlr : i < r.length := by omega
    have er : newR r c = r.take i ++ [widV r[i]] ++ r.drop (i + 1) := by unfold newR; rw [if_neg (by omega), if_neg (by omega), ht, drop_one hlr]; rfl
    refine fit_mk hfn (by rw [er, e]; simp; omega) ?_
    rw [er, e, List.zip_append (by simp; omega), List.zip_append htk, zip_take', zip_drop', List.all_append, List.all_append, all_take hz, all_drop hz]
    have hzi : i < (r.zip f).length := by rw [List.length_zip]; omega
    have hpi : fitP (r[i], f[i]) = true := by
      have := List.all_eq_true.1 hz _ (List.getElem_mem hzi)
      rwa [List.getElem_zip] at this
    obtain ⟨q1, q2⟩ := fitP_iff.1 hpi
    have q3 := wid_k (v := r[i]) (j := 1) (by rcases q2 with q | q; exact .inr q; exact .inl (q.trans hk1)) rfl
    have := fitP_iff (x := widV r[i]) (c := ⟨2, widV f[i].d⟩)
    have := this.2 ⟨val_wid q1, q3.symm⟩
    simp [this]
theorem chR_some {f : List RCol} {r g : List RVal} {c : RChg} (h : chR f r c = some g) : fitB f r = true ∧ posB f c = true ∧ g = newR r c := by
  unfold chR at h
  split at h
  · rename_i hh
    simp at hh
    injection h with h
    exact ⟨hh.1, hh.2, h.symm⟩
  · cases h
theorem chC_of {f : List RCol} {r : List RVal} {c : RChg} (h1 : fitB f r = true) (h2 : posB f c = true) : chC f c = some (newC f c) := by
  unfold chC; rw [(fit_of h1).2.2.2.1, h2]; rfl
theorem chR_none {f G : List RCol} {r : List RVal} {c : RChg} (h : chR f r c = none) (h' : chC f c = some G) : fitB f r = false := by
  obtain ⟨-, hp, -⟩ := chC_some h'
  cases hf : fitB f r with
  | false => rfl
  | true => unfold chR at h; rw [hf, hp] at h; simp at h
theorem chC_eq {f : List RCol} {c : RChg} (h : fmtB f = true) : chC f c = if posB f c then some (newC f c) else none := by
  unfold chC; rw [h]; simp
theorem ok_newC {f : List RCol} {c : RChg} (h : ∀ x ∈ f, okC x) (hf : fmtB f = true) (hc : okC c.c) (hp : posB f c = true) : ∀ x ∈ newC f c, okC x := by
  intro x hx
  obtain ⟨i, -, hi, hq⟩ := pos_at hp
  have ha := (fmt_len2 hf).2.2
  rcases hq with ⟨-, -, -, e⟩ | ⟨-, -, -, e⟩ | ⟨-, hlt, hk, e⟩
  · rw [e] at hx; simp only [List.mem_append, List.mem_singleton] at hx
    rcases hx with (hx | rfl) | hx
    · exact h x (List.mem_of_mem_take hx)
    · exact hc
    · exact h x (List.mem_of_mem_drop hx)
  · rw [e] at hx; simp only [List.mem_append] at hx
    rcases hx with hx | hx
    · exact h x (List.mem_of_mem_take hx)
    · exact h x (List.mem_of_mem_drop hx)
  · rw [e] at hx; simp only [List.mem_append, List.mem_singleton] at hx
    rcases hx with (hx | rfl) | hx
    · exact h x (List.mem_of_mem_take hx)
    · have hm := List.getElem_mem hlt
      exact okV_wid (h _ hm) (colB_iff.1 (ha _ hm)).2.1
    · exact h x (List.mem_of_mem_drop hx)
theorem chStep_some {L0 L : List (List RCol)} {c : RChg} (h : chStep (some L0) c = some L) : ∃ g G, L0.getLast? = some g ∧ chC g c = some G ∧ L = L0 ++ [G] := by
  simp only [chStep, Option.bind_some] at h
  cases hg : L0.getLast? with
  | none => rw [hg] at h; simp at h
  | some g =>
    rw [hg] at h
    simp only [Option.bind_some] at h
    cases hG : chC g c with
    | none => rw [hG] at h; simp at h
    | some G =>
      rw [hG] at h
      simp at h
      exact ⟨g, G, rfl, hG, h.symm⟩
theorem chain_inv (cs : List RChg) : ∀ L0 L : List (List RCol), L0 ≠ [] → cs.foldl chStep (some L0) = some L → L.length = L0.length + cs.length ∧ (∀ i, i < L0.length → L[i]? = L0[i]?) ∧
    ∀ i (hi : i < cs.length), ∃ g G, L[L0.length - 1 + i]? = some g ∧ chC g cs[i] = some G ∧ L[L0.length + i]? = some G := by
  induction cs with
  | nil =>
    intro L0 L h0 h
    simp at h
    subst h
    exact ⟨by simp, fun i _ => rfl, fun i hi => by simp at hi⟩
  | cons c cs ih =>
    intro L0 L h0 h
    rw [List.foldl_cons] at h
    cases hs : chStep (some L0) c with
    | none => rw [hs, fold_none] at h; cases h
    | some L1 =>
      rw [hs] at h
      obtain ⟨g, G, hg, hG, rfl⟩ := chStep_some hs
      obtain ⟨q1, q2, q3⟩ := ih (L0 ++ [G]) L (by simp) h
      have hpos : 0 < L0.length := List.length_pos_iff.2 h0
      refine ⟨by rw [q1]; simp; omega, fun i hi => ?_, fun i hi => ?_⟩
      · rw [q2 i (by simp; omega), List.getElem?_append_left hi]
      · cases i with
        | zero =>
          refine ⟨g, G, ?_, hG, ?_⟩
          · rw [Nat.add_zero, q2 _ (by simp; omega), List.getElem?_append_left (by omega), ← List.getLast?_eq_getElem?]; exact hg
          · rw [Nat.add_zero, q2 _ (by simp), List.getElem?_append_right (by omega)]; simp
        | succ i =>
          obtain ⟨g', G', a1, a2, a3⟩ := q3 i (by simpa using hi)
          refine ⟨g', G', ?_, a2, ?_⟩
          · rw [← a1]; congr 1; simp; omega
          · rw [← a3]; congr 1; simp; omega
/-- what a chain is -/
theorem chain_of {f : List RCol} {cs : List RChg} {L : List (List RCol)} (h : chainL f cs = some L) : fmtB f = true ∧ cs.length ≤ 8 ∧ cs.foldl chStep (some [f]) = some L := by
  unfold chainL at h
  split at h
  · rename_i hh
    simp at hh
    exact ⟨hh.1, hh.2, h⟩
  · cases h
theorem chain_len {f : List RCol} {cs : List RChg} {L : List (List RCol)} (h : chainL f cs = some L) : L.length = cs.length + 1 := by
  have := (chain_inv cs [f] L (by simp) (chain_of h).2.2).1
  simpa [Nat.add_comm] using this
theorem chain_zero {f : List RCol} {cs : List RChg} {L : List (List RCol)} (h : chainL f cs = some L) (h0 : 0 < L.length) : L[0] = f := by
  have := (chain_inv cs [f] L (by simp) (chain_of h).2.2).2.1 0 (by simp)
  rw [List.getElem?_eq_getElem h0] at this
  simpa using this
theorem chain_step {f : List RCol} {cs : List RChg} {L : List (List RCol)} (h : chainL f cs = some L) (i : Nat) (hi : i < cs.length) (h1 : i < L.length) (h2 : i + 1 < L.length) : chC L[i] cs[i] = some L[i + 1] := by
  obtain ⟨g, G, a1, a2, a3⟩ := (chain_inv cs [f] L (by simp) (chain_of h).2.2).2.2 i hi
  simp only [List.length_singleton, Nat.sub_self, Nat.zero_add] at a1
  rw [show [f].length + i = i + 1 by simp; omega] at a3
  rw [List.getElem?_eq_getElem h1] at a1
  rw [List.getElem?_eq_getElem h2] at a3
  injection a1 with a1
  injection a3 with a3
  rw [a1, a3]; exact a2
theorem chain_pos {f : List RCol} {cs : List RChg} {L : List (List RCol)} (h : chainL f cs = some L) (i : Nat) (hi : i < cs.length) (h1 : i < L.length) (h2 : i + 1 < L.length) : fmtB L[i] = true ∧ posB L[i] cs[i] = true ∧ L[i + 1] = newC L[i] cs[i] := chC_some (chain_step h i hi h1 h2)
theorem chain_fmt {f : List RCol} {cs : List RChg} {L : List (List RCol)} (h : chainL f cs = some L) (i : Nat) (hi : i < L.length) : fmtB L[i] = true := by
  have hl := chain_len h
  cases i with
  | zero => rw [chain_zero h hi]; exact (chain_of h).1
  | succ i =>
    obtain ⟨q1, q2, q3⟩ := chain_pos h i (by omega) (by omega) hi
    rw [q3]; exact fmt_new q1 q2
/-- a row along changes -/
def advL (r : List RVal) (cs : List RChg) : List RVal := cs.foldl newR r
/-- the row of ReadRow -/
def readL (f : List RCol) (cs : List RChg) (a b : Int) (r : List RVal) : Option (List RVal) :=
  match chainL f cs with
  | none => none
  | some L => if 0 ≤ a ∧ a ≤ b ∧ b ≤ (cs.length : Int) ∧ fitB (L[a.toNat]?.getD []) r = true then some (advL r ((cs.drop a.toNat).take (b.toNat - a.toNat))) else none
theorem adv_zero (r : List RVal) : advL r [] = r := rfl
theorem adv_snoc (r : List RVal) (cs : List RChg) (c : RChg) : advL r (cs ++ [c]) = newR (advL r cs) c := by unfold advL; rw [List.foldl_append]; rfl
theorem seg_snoc (cs : List RChg) (a k : Nat) (hk : a + k < cs.length) : (cs.drop a).take (k + 1) = (cs.drop a).take k ++ [cs[a + k]] := by
  rw [List.take_succ_eq_append_getElem (by rw [List.length_drop]; omega), List.getElem_drop]
theorem seg_zero (cs : List RChg) (a : Nat) : (cs.drop a).take 0 = [] := by simp
/-- a row that fits one format of a chain, further on -/
theorem adv_fit {f : List RCol} {cs : List RChg} {L : List (List RCol)} (h : chainL f cs = some L) (a : Nat) (r : List RVal) (ha : a < L.length) (hf : fitB L[a] r = true) (k : Nat) (hk : a + k < L.length) : fitB L[a + k] (advL r ((cs.drop a).take k)) = true := by
  have hl := chain_len h
  induction k with
  | zero => rw [seg_zero]; exact hf
  | succ k ih =>
    have h1 : a + k < cs.length := by omega
    obtain ⟨q1, q2, q3⟩ := chain_pos h (a + k) h1 (by omega) hk
    rw [seg_snoc cs a k h1, adv_snoc]
    have := fit_new (ih (by omega)) q2
    rw [← q3] at this
    exact this
/-- two parts of the way -/
theorem adv_parts (r : List RVal) (cs : List RChg) (a j k : Nat) : advL (advL r ((cs.drop a).take j)) ((cs.drop (a + j)).take k) = advL r ((cs.drop a).take (j + k)) := by
  unfold advL
  rw [← List.foldl_append, List.take_add, List.drop_drop]
theorem readL_some {f : List RCol} {cs : List RChg} {a b : Int} {r g : List RVal} (h : readL f cs a b r = some g) : ∃ L, chainL f cs = some L ∧ 0 ≤ a ∧ a ≤ b ∧ b ≤ (cs.length : Int) ∧ fitB (L[a.toNat]?.getD []) r = true ∧ g = advL r ((cs.drop a.toNat).take (b.toNat - a.toNat)) := by
  unfold readL at h
  cases hL : chainL f cs with
  | none => rw [hL] at h; cases h
  | some L =>
    rw [hL] at h
    simp only at h
    split at h
    · rename_i hh
      injection h with h
      exact ⟨L, rfl, hh.1, hh.2.1, hh.2.2.1, hh.2.2.2, h.symm⟩
    · cases h
theorem readL_mk {f : List RCol} {cs : List RChg} {L : List (List RCol)} {a b : Int} {r : List RVal} (hL : chainL f cs = some L) (h0 : 0 ≤ a) (h1 : a ≤ b) (h2 : b ≤ (cs.length : Int)) (h3 : fitB (L[a.toNat]?.getD []) r = true) : readL f cs a b r = some (advL r ((cs.drop a.toNat).take (b.toNat - a.toNat))) := by
  unfold readL; rw [hL]; simp only; rw [if_pos ⟨h0, h1, h2, h3⟩]
theorem Apart.symm {u v : Value} (h : Apart u v) : Apart v u := fun k h1 h2 => h k h2 h1
/-- a row of formats, at one of them: the cell, the format, and what a change of this format alone leaves -/
theorem OwnL.leaf {B : Nat} {w : World} {v : Value} {fs : List (List RCol)} (h : OwnL B w v fs) (k : Nat) (hk : k < fs.length) :
    ∃ g c lv, v = .slice (some ⟨g, 0, none⟩) fs.length c ∧ w.cell? ⟨g, k, none⟩ = some lv ∧ OwnC B w lv fs[k] ∧ ∀ w' G, w.grownBy w' lv.ownBlock → OwnC B w' lv G → OwnL B w' v (fs.set k G) := by
  obtain ⟨xs, ho, hx, ha⟩ := h
  have ho' := ho
  rcases ho.2 with ⟨rfl, h0⟩ | ⟨gr, cap, cur, rfl, hb, hg, h1, h2, h3⟩
  · omega
  obtain ⟨lv, e1, e2⟩ := hx.own k hk
  refine ⟨gr, cap, lv, rfl, by rw [World.ownsRow.cellAt ho' _ (by omega)]; exact e1, e2, fun w' G hgr hG => ⟨xs, ?_, ?_, ha⟩⟩
  · rw [List.length_set]
    exact own_kept2 ho' hgr (fun j q1 q2 => ha k lv e1 j q1 q2)
  · refine ⟨by rw [List.length_set]; exact hx.len, fun i hi => ?_, hx.ap⟩
    rw [List.length_set] at hi
    by_cases hik : i = k
    · subst hik
      exact ⟨lv, e1, by rw [List.getElem_set_self]; exact hG⟩
    · obtain ⟨lu, f1, f2⟩ := hx.own i hi
      refine ⟨lu, f1, ?_⟩
      rw [List.getElem_set_ne (by omega)]
      refine own_kept2 f2 hgr (fun j q1 q2 => ?_)
      rcases Nat.lt_or_ge i k with hlt | hge
      · exact (hx.ap i k lu lv hlt f1 e1) j q2 q1
      · exact (hx.ap k i lv lu (by omega) e1 f1) j q1 q2
/-- the rows of a chain of formats in memory -/
theorem OwnL.rows {B : Nat} {w : World} {v : Value} {fs : List (List RCol)} (h : OwnL B w v fs) (h1 : 1 ≤ fs.length) :
    ∃ g c, v = .slice (some ⟨g, 0, none⟩) fs.length c ∧ fs.length ≤ c ∧ c ≤ 9223372036854775807 ∧ ∀ W, Below w.heap.size w W → ∀ k (hk : k < fs.length), ∃ a n, W.cell? ⟨g, k, none⟩ = some (.slice a fs[k].length n) ∧ Recs cEnc 4 W (.slice a fs[k].length n) fs[k] := by
  obtain ⟨g, c, lv, rfl, -, -⟩ := h.leaf 0 (by omega)
  obtain ⟨a', c', hv, hc1, hc2⟩ := ownL_slc h
  injection hv with _ _ e3
  subst e3
  refine ⟨g, c, rfl, hc1, hc2, fun W hW k hk => ?_⟩
  obtain ⟨g', c', lv', hv, hcell, ho, -⟩ := (h.keep hW).leaf k hk
  injection hv with e1 e2 e3
  injection e1 with e1
  injection e1 with e1 _ _
  subst e1
  obtain ⟨a, n, rfl, -, -⟩ := own_slc ho
  exact ⟨a, n, hcell, OwnR.recs cEnc_len ho⟩
theorem chR_adv {f : List RCol} {cs : List RChg} {L : List (List RCol)} (h : chainL f cs = some L) (a : Nat) (r : List RVal) (ha : a < L.length) (hf : fitB L[a] r = true) (k : Nat) (hk : a + k < cs.length) (h1 : a + k < L.length) : chR L[a + k] (advL r ((cs.drop a).take k)) cs[a + k] = some (advL r ((cs.drop a).take (k + 1))) := by
  have hl := chain_len h
  obtain ⟨q1, q2, q3⟩ := chain_pos h (a + k) hk h1 (by omega)
  have hft := adv_fit h a r ha hf k h1
  rw [seg_snoc cs a k hk, adv_snoc]
  unfold chR
  rw [hft, q2]; rfl
end Go.Proofs.YtdijcdadcbhipaaDoor
