/-
  The plain laws behind the weak laws of rows, moves and builds. No program stands here.
-/
import Derived.Test.YtppbmhlmbepneaaOnl2
set_option linter.all false
namespace Go.Proofs.Ytppbmhlmbepneaa
def isCh (m : RMove) : Bool := !m.scan
def chs (ms : List RMove) : List RMove := ms.filter isCh
theorem foldl_chs (l : List Itm) (ms : List RMove) : (chs ms).foldl stepR l = ms.foldl stepR l := by
  induction ms generalizing l with
  | nil => rfl
  | cons m ms ih =>
    unfold chs at ih ⊢
    rw [List.filter_cons]
    cases hs : m.scan with
    | true =>
      have : isCh m = false := by simp [isCh, hs]
      have h2 : stepR l m = l := by simp [stepR, hs]
      rw [this, List.foldl_cons, h2]
      exact ih l
    | false =>
      have : isCh m = true := by simp [isCh, hs]
      rw [this, if_pos rfl, List.foldl_cons, List.foldl_cons]
      exact ih _
theorem take_chs (ms : List RMove) : ∀ k, k ≤ (chs ms).length → ∃ j, j ≤ ms.length ∧ (chs ms).take k = chs (ms.take j) := by
  induction ms with
  | nil => intro k _; exact ⟨0, by simp, by simp [chs]⟩
  | cons m ms ih =>
    intro k hk
    unfold chs at ih hk ⊢
    rw [List.filter_cons] at hk ⊢
    cases hs : isCh m with
    | true =>
      rw [hs] at hk
      simp only [if_true] at hk ⊢
      cases k with
      | zero => exact ⟨0, by simp, by simp⟩
      | succ k =>
        obtain ⟨j, hj, he⟩ := ih k (by simpa using hk)
        exact ⟨j + 1, by simpa using hj, by simp only [List.take_succ_cons, List.filter_cons, hs, if_true, he]⟩
    | false =>
      rw [hs] at hk
      simp only [Bool.false_eq_true, if_false] at hk ⊢
      obtain ⟨j, hj, he⟩ := ih k hk
      exact ⟨j + 1, by simpa using hj, by simp only [List.take_succ_cons, List.filter_cons, hs, Bool.false_eq_true, if_false, he]⟩
theorem chs_len (ms : List RMove) : (chs ms).length ≤ ms.length := List.length_filter_le _ _
theorem chs_split (ms : List RMove) (k : Nat) : chs ms = chs (ms.take k) ++ chs (ms.drop k) := by
  unfold chs
  rw [← List.filter_append, List.take_append_drop]
theorem chs_take_len (ms : List RMove) (k : Nat) : (chs (ms.take k)).length ≤ (chs ms).length := by
  rw [chs_split ms k, List.length_append]; omega
theorem chs_prefix (ms : List RMove) (k : Nat) : chs (ms.take k) = (chs ms).take (chs (ms.take k)).length := by
  have e := chs_split ms k
  generalize chs (ms.take k) = a at *
  rw [e]
  exact (List.take_left' rfl).symm
theorem rowsAt_chs (l : List Itm) (ms : List RMove) : ∀ k, k ≤ (chs ms).length → ∃ j, j ≤ ms.length ∧ rowsAt l (chs ms) k = rowsAt l ms j := by
  intro k hk
  obtain ⟨j, hj, he⟩ := take_chs ms k hk
  exact ⟨j, hj, by unfold rowsAt; rw [he, foldl_chs]⟩
theorem rowsAt_chs' (l : List Itm) (ms : List RMove) : ∀ j, j ≤ ms.length → ∃ k, k ≤ (chs ms).length ∧ rowsAt l ms j = rowsAt l (chs ms) k := by
  intro j hj
  refine ⟨(chs (ms.take j)).length, chs_take_len ms j, ?_⟩
  unfold rowsAt
  rw [← chs_prefix, foldl_chs]
theorem rowsEnd_chs (l : List Itm) (ms : List RMove) : rowsAt l (chs ms) (chs ms).length = rowsAt l ms ms.length := by
  unfold rowsAt
  rw [List.take_length, List.take_length, foldl_chs]
theorem vMoves_chs {l : List Itm} {ms : List RMove} (h : vMoves l ms) : vMoves l (chs ms) := by
  refine vMoves_of h.1.1 (Nat.le_trans (chs_len ms) h.1.2) fun k hk => ⟨fun _ => ?_, ?_⟩
  · have hm := List.getElem_mem hk
    unfold chs at hm
    obtain ⟨hm1, hm2⟩ := List.mem_filter.1 hm
    obtain ⟨j, hj, he⟩ := List.getElem_of_mem hm1
    have := h.mv j hj
    rw [he] at this
    exact this (by simpa [isCh] using hm2)
  · obtain ⟨j, hj, he⟩ := rowsAt_chs l ms (k + 1) hk
    rw [he]; exact rows_len h j hj
theorem vMoves_chs' {l : List Itm} {ms : List RMove} (h16 : ms.length ≤ 16) (h : vMoves l (chs ms)) : vMoves l ms := by
  refine vMoves_of h.1.1 h16 fun k hk => ⟨fun hs => ?_, ?_⟩
  · have hm : ms[k] ∈ chs ms := by
      unfold chs
      exact List.mem_filter.2 ⟨List.getElem_mem hk, by simp [isCh, hs]⟩
    obtain ⟨j, hj, he⟩ := List.getElem_of_mem hm
    have := h.mv j hj
    rw [he] at this
    exact this hs
  · obtain ⟨j, hj, he⟩ := rowsAt_chs' l ms (k + 1) hk
    rw [he]; exact rows_len h j hj
theorem AftOf.chs {l r r' : List Itm} {ms : List RMove} (h : AftOf l ms r) (hne : r ≠ []) (h' : AftOf l (chs ms) r') : r' = r := by
  by_cases c : vMoves l ms
  · rw [h.1 c, h'.1 (vMoves_chs c), rowsEnd_chs]
  · exact absurd (h.2 c) hne
theorem AftOf.vm {l r : List Itm} {ms : List RMove} (h : AftOf l ms r) (hne : r ≠ []) : vMoves l ms ∧ r = rowsAt l ms ms.length := by
  by_cases c : vMoves l ms
  · exact ⟨c, h.1 c⟩
  · exact absurd (h.2 c) hne
theorem AftOf.asc {l r : List Itm} {ms : List RMove} (h : AftOf l ms r) : AscR r := by
  by_cases c : vMoves l ms
  · rw [h.1 c]; exact c.asc _ (Nat.le_refl _)
  · rw [h.2 c]; exact List.Pairwise.nil
theorem BldOf.chs {l r r' : List Itm} {ms : List RMove} (h16 : ms.length ≤ 16) (h : BldOf l ms r) (h' : BldOf l (chs ms) r') : r' = r := by
  by_cases c : vMoves l ms
  · rw [h.1 c, h'.1 (vMoves_chs c), rowsEnd_chs]
  · rw [h.2 c, h'.2 (fun q => c (vMoves_chs' h16 q))]
theorem vMoves.rows {l : List Itm} {ms : List RMove} (h : vMoves l ms) : vRows (rowsAt l ms ms.length) := ⟨rows_len h _ (Nat.le_refl _), h.ok _ (Nat.le_refl _), h.asc _ (Nat.le_refl _)⟩
theorem vRows_nil : vRows [] := ⟨by simp, fun x hx => by simp at hx, List.Pairwise.nil⟩
/-- what IndexOf gives of what RowsAfter gives is what BuildOnline gives -/
theorem BldOf.idx {l r a x : List Itm} {ms : List RMove} (h : BldOf l ms r) (ha : AftOf l ms a) (hx1 : vRows a → x = ordL a) : x = r := by
  by_cases c : vMoves l ms
  · have e := ha.1 c
    rw [h.1 c, ← e]
    exact hx1 (by rw [e]; exact c.rows)
  · have e := ha.2 c
    rw [h.2 c]
    have := hx1 (by rw [e]; exact vRows_nil)
    rw [this, e]; rfl
/-- the last change of a row -/
theorem AftOf.last {l r : List Itm} {ms : List RMove} (h : AftOf l ms r) (hne : r ≠ []) {m : RMove} (hl : ms.length ≠ 0) (hm : ms[ms.length - 1]'(by omega) = m) (hs : m.scan = false) :
    (∀ x ∈ r, x.r = m.row → m.gone = false ∧ x.k = m.key) ∧ (m.gone = false → ∃ i, ∃ h : i < r.length, r[i].r = m.row) := by
  obtain ⟨c, e⟩ := h.vm hne
  obtain ⟨n, hn⟩ : ∃ n, ms.length = n + 1 := ⟨ms.length - 1, by omega⟩
  have hm' : ms[n]'(by omega) = m := by rw [← hm]; congr 1; omega
  have e2 : r = setRowL (rowsAt l ms n) m := by
    rw [e, hn, rowsAt_s (by omega), hm']
    simp [stepR, hs]
  constructor
  · intro x hx hr
    rw [e2] at hx
    rcases mem_setRowL.1 hx with h1 | ⟨h1, h2⟩
    · exact absurd hr h1.2
    · exact ⟨h1, by rw [h2]; rfl⟩
  · intro hg
    have hx : mvItm m ∈ r := by rw [e2]; exact mem_setRowL.2 (.inr ⟨hg, rfl⟩)
    obtain ⟨i, hi, he⟩ := List.getElem_of_mem hx
    exact ⟨i, hi, by rw [he]; rfl⟩
/-- nothing is written down before the scan -/
theorem SidOf.noscan {l : List Itm} {ms r : List RMove} (h : SidOf l ms r) : ∀ m ∈ r, m.scan = false := by
  by_cases c : vMoves l ms
  · rw [h.1 c]
    exact fun m hm => ((c.inv _ (Nat.le_refl _)).sd m hm).2.1
  · rw [h.2 c]; intro m hm; simp at hm
theorem side_chs (l : List Itm) (ms : List RMove) : ∀ k, k ≤ ms.length → (bsAt l ms k).side.length ≤ 2 * (chs (ms.take k)).length := by
  intro k
  induction k with
  | zero => intro _; simp [bsAt]
  | succ k ih =>
    intro hk
    have h := ih (by omega)
    have ht : chs (ms.take (k + 1)) = chs (ms.take k) ++ (if isCh ms[k] then [ms[k]] else []) := by
      unfold chs
      rw [List.take_succ_eq_append_getElem hk, List.filter_append]
      simp [List.filter_cons]
    rw [bsAt_s hk, ht, List.length_append]
    unfold stepB
    cases hs : ms[k].scan with
    | true =>
      simp only [if_true]
      rw [(scanB_rows _).2]
      omega
    | false =>
      simp only [Bool.false_eq_true, if_false]
      have hc : isCh ms[k] = true := by simp [isCh, hs]
      rw [hc]
      simp only [if_true, List.length_singleton]
      have h1 := oldM_len (bsAt l ms k).rows ms[k]
      have h2 := newM_len ms[k]
      show (sideM (bsAt l ms k) ms[k]).length ≤ _
      unfold sideM
      split
      · rw [List.length_append, List.length_append]; omega
      · omega
theorem SidOf.chs_len {l : List Itm} {ms r : List RMove} (h : SidOf l ms r) : r.length ≤ 2 * (chs ms).length := by
  by_cases c : vMoves l ms
  · have := side_chs l ms ms.length (Nat.le_refl _)
    rw [List.take_length] at this
    rw [h.1 c]; exact this
  · rw [h.2 c]; simp
theorem chs_scan {ms : List RMove} {k : Nat} (hk : k < (chs ms).length) : (chs ms)[k].scan = false := by
  have hm : (chs ms)[k] ∈ ms.filter isCh := List.getElem_mem hk
  have := (List.mem_filter.1 hm).2
  generalize (chs ms)[k] = m at this ⊢
  simpa [isCh] using this
theorem side_none {l : List Itm} {ms : List RMove} (h : vMoves l (chs ms)) : ∀ k, k ≤ (chs ms).length → (bsAt l (chs ms) k).side = [] ∧ (bsAt l (chs ms) k).pos = -1 := by
  intro k
  induction k with
  | zero => intro _; exact ⟨rfl, rfl⟩
  | succ k ih =>
    intro hk
    obtain ⟨h1, h2⟩ := ih (by omega)
    have hs := chs_scan (ms := ms) hk
    have hv := h.mv k hk hs
    rw [bsAt_s hk]
    unfold stepB
    rw [hs]
    simp only [Bool.false_eq_true, if_false]
    refine ⟨?_, h2⟩
    show sideM _ _ = []
    unfold sideM
    rw [h2, if_neg (by have := hv.1.1; omega), h1]
theorem SidOf.none {l : List Itm} {ms r : List RMove} (h : SidOf l (chs ms) r) : r = [] := by
  by_cases c : vMoves l (chs ms)
  · rw [h.1 c]; exact (side_none c _ (Nat.le_refl _)).1
  · exact h.2 c
/-- working off can be repeated -/
theorem drnS_twice {l : List Itm} (h : SrtI l) (m : RMove) : drnS (drnS l m) m = drnS l m := by
  refine srt_ext (srt_drnS (srt_drnS h m) m) (srt_drnS h m) fun y => ?_
  rw [mem_drnS, mem_drnS]
  cases m.gone <;> simp
theorem ok_drnL {l : List Itm} {ms : List RMove} (h : ∀ x ∈ l, okI x = true) (hm : ∀ m ∈ ms, vMove m) : ∀ x ∈ drnL l ms, okI x = true := by
  induction ms generalizing l with
  | nil => exact h
  | cons m ms ih =>
    refine ih (l := drnS l m) (fun x hx => ?_) (fun q hq => hm q (List.mem_cons_of_mem _ hq))
    rcases mem_drnS.1 hx with h1 | h1
    · exact h x h1.1
    · rw [h1.2]
      obtain ⟨⟨a1, a2⟩, a3, a4⟩ := hm m (List.mem_cons_self ..)
      unfold okI mvItm
      exact decide_eq_true ⟨⟨a3, a4⟩, a1, a2⟩
theorem srt_ordI {l : List Itm} (h : SrtI l) (ho : ∀ x ∈ l, okI x = true) : ordI l := fun i hi => ⟨ho _ (List.getElem_mem hi), fun h0 => List.pairwise_iff_getElem.1 h (i - 1) i (by omega) hi (by omega)⟩
theorem ordI_ok {l : List Itm} (h : ordI l) : ∀ x ∈ l, okI x = true := fun x hx => by
  obtain ⟨i, hi, rfl⟩ := List.getElem_of_mem hx
  exact (h i hi).1
def lastM (ms : List RMove) : List RMove := ms.drop (ms.length - 1)
theorem lastM_mem {ms : List RMove} : ∀ m ∈ lastM ms, m ∈ ms := fun m hm => List.mem_of_mem_drop hm
theorem DrnOf.vs {l r : List Itm} {ms : List RMove} (h : DrnOf l ms r) (hne : r ≠ []) : vSide l ms ∧ r = drnL l ms := by
  by_cases c : vSide l ms
  · exact ⟨c, h.1 c⟩
  · exact absurd (h.2 c) hne
theorem DrnOf.srt {l r : List Itm} {ms : List RMove} (h : DrnOf l ms r) (hne : r ≠ []) : SrtI r := by
  obtain ⟨c, e⟩ := h.vs hne
  rw [e]; exact srt_drnL (ordI_srt c.1.1.1) _
theorem DrnOf.twice {l r r' : List Itm} {ms : List RMove} (h : DrnOf l ms r) (hne : r ≠ []) (h30 : r.length ≤ 30) (h' : DrnOf r (lastM ms) r') : r' = r := by
  obtain ⟨c, e⟩ := h.vs hne
  have hs := h.srt hne
  have hok : ∀ x ∈ r, okI x = true := by rw [e]; exact ok_drnL (ordI_ok c.1.1.1) (fun m hm => (c.2 m hm).2)
  have hv : vSide r (lastM ms) := ⟨⟨⟨srt_ordI hs hok, h30⟩, by unfold lastM; rw [List.length_drop]; omega⟩, fun m hm => c.2 m (lastM_mem m hm)⟩
  rw [h'.1 hv]
  by_cases h0 : ms.length = 0
  · have : lastM ms = [] := by unfold lastM; rw [List.drop_eq_nil_of_le (by omega)]
    rw [this]; rfl
  · obtain ⟨n, hn⟩ : ∃ n, ms.length = n + 1 := ⟨ms.length - 1, by omega⟩
    have hl : lastM ms = [ms[n]'(by omega)] := by
      unfold lastM
      rw [show ms.length - 1 = n by omega, List.drop_eq_getElem_cons (by omega), List.drop_eq_nil_of_le (by omega)]
    have ht : r = drnS (drnL l (ms.take n)) (ms[n]'(by omega)) := by
      rw [e, ← drnL_take (by omega), ← hn, List.take_length]
    rw [hl]
    show drnS r _ = r
    rw [ht]
    exact drnS_twice (srt_drnL (ordI_srt c.1.1.1) _) _
/-- unique indexes have no key twice -/
theorem dbl_distinct {l : List Itm} (hs : SrtI (ordL l)) (h : Dbl (ordL l) (-1)) (hk : ∀ x ∈ l, okI x = true) : ∀ x ∈ l, ∀ y ∈ l, x.k = y.k → x = y := by
  have hadj : ∀ i (h : i + 1 < (ordL l).length), ((ordL l)[i]'(by omega)).k ≠ (ordL l)[i + 1].k := by
    rcases h with ⟨j, hj, -, hn, -⟩ | ⟨-, hn⟩
    · have := ok_ordL hk _ (List.getElem_mem hj)
      simp only [okI, decide_eq_true_eq] at this
      omega
    · exact hn
  have step : ∀ i (hi : i + 1 < (ordL l).length), ((ordL l)[i]'(by omega)).k < (ordL l)[i + 1].k := fun i hi => by
    have h1 := List.pairwise_iff_getElem.1 hs i (i + 1) (by omega) hi (by omega)
    have h2 := hadj i hi
    simp only [lessP, lessI, decide_eq_true_eq] at h1
    omega
  have hlt : ∀ i d (hj : i + 1 + d < (ordL l).length), ((ordL l)[i]'(by omega)).k < (ordL l)[i + 1 + d].k := by
    intro i d hj
    induction d with
    | zero => exact step i hj
    | succ d ih =>
      have h1 := ih (by omega)
      have h2 := step (i + 1 + d) hj
      exact Int.lt_trans h1 h2
  intro x hx y hy he
  obtain ⟨i, hi, rfl⟩ := List.getElem_of_mem (((ordL_spec l).2 x).2 hx)
  obtain ⟨j, hj, rfl⟩ := List.getElem_of_mem (((ordL_spec l).2 y).2 hy)
  rcases Nat.lt_trichotomy i j with q | q | q
  · obtain ⟨d, rfl⟩ : ∃ d, j = i + 1 + d := ⟨j - i - 1, by omega⟩
    have := hlt i d hj; omega
  · subst q; rfl
  · obtain ⟨d, rfl⟩ : ∃ d, i = j + 1 + d := ⟨i - j - 1, by omega⟩
    have := hlt j d hi; omega
theorem distinct_dbl {l : List Itm} (hn : l.Nodup) (h : ∀ i j (hi : i < l.length) (hj : j < i), l[i].k ≠ (l[j]'(by omega)).k) : Dbl (ordL l) (-1) := by
  refine .inr ⟨rfl, fun i hi he => ?_⟩
  have hx := ((ordL_spec l).2 _).1 (List.getElem_mem (l := ordL l) (n := i) (by omega))
  have hy := ((ordL_spec l).2 _).1 (List.getElem_mem hi)
  have hne : (ordL l)[i]'(by omega) ≠ (ordL l)[i + 1] := fun e => by
    have := List.pairwise_iff_getElem.1 (ordL_spec l).1 i (i + 1) (by omega) hi (by omega)
    rw [e] at this
    exact lessP_irrefl _ this
  generalize (ordL l)[i]'(by omega) = x at *
  generalize (ordL l)[i + 1] = y at *
  obtain ⟨a, ha, rfl⟩ := List.getElem_of_mem hx
  obtain ⟨b, hb, rfl⟩ := List.getElem_of_mem hy
  rcases Nat.lt_trichotomy a b with q | q | q
  · exact h b a hb q he.symm
  · subst q; exact hne rfl
  · exact h a b ha q he
theorem CanOf.yes {l r : List Itm} {ms : List RMove} (h : CanOf l ms true) (ha : AftOf l ms r) : ∀ i j (hi : i < r.length) (hj : j < i), r[i].k ≠ (r[j]'(by omega)).k := by
  obtain ⟨hv, hd⟩ := h.1 rfl
  intro i j hi hj he
  have e := ha.1 hv
  have hok := hv.ok _ (Nat.le_refl _)
  have hasc := hv.asc _ (Nat.le_refl _)
  rw [← e] at hd hok hasc
  have := dbl_distinct (ordL_spec _).1 hd hok _ (List.getElem_mem hi) _ (List.getElem_mem (l := r) (n := j) (by omega)) he
  have h2 := List.pairwise_iff_getElem.1 hasc j i (by omega) hi hj
  rw [this] at h2
  unfold nextr at h2; omega
theorem CanOf.no {l r : List Itm} {ms : List RMove} (h : CanOf l ms false) (ha : AftOf l ms r) (hd : ∀ i j (hi : i < r.length) (hj : j < i), r[i].k ≠ (r[j]'(by omega)).k) : r = [] := by
  by_cases c : vMoves l ms
  · have e := ha.1 c
    have hn := asc_nodup (c.asc _ (Nat.le_refl _))
    rw [← e] at hn
    have := distinct_dbl hn hd
    rw [e] at this
    have := h.2 ⟨c, this⟩
    cases this
  · exact ha.2 c
/-- the first clash is a clash -/
theorem vMoves_take {l : List Itm} {ms : List RMove} (h : vMoves l ms) (n : Nat) : vMoves l (ms.take n) := by
  refine vMoves_of h.1.1 (by rw [List.length_take]; have := h.1.2; omega) fun k hk => ?_
  rw [List.length_take] at hk
  refine ⟨?_, ?_⟩
  · rw [List.getElem_take]; exact h.mv k (by omega)
  · have : rowsAt l (ms.take n) (k + 1) = rowsAt l ms (k + 1) := by unfold rowsAt; rw [List.take_take, Nat.min_eq_left (by omega)]
    rw [this]; exact rows_len h (k + 1) (by omega)
theorem rowsAt_take (l : List Itm) (ms : List RMove) {n : Nat} (h : n ≤ ms.length) : rowsAt l (ms.take n) (ms.take n).length = rowsAt l ms n := by
  unfold rowsAt; rw [List.take_length]
theorem ClsOf.at {l : List Itm} {ms : List RMove} {n : Int} {k : Nat} (h : ClsOf l ms n) (hk : n = (k : Int)) (hlt : k < ms.length) {a b : Bool} (ha : CanOf l (ms.take (k + 1)) a) (hb : CanOf l (ms.take k) b) : a = false ∧ b = true := by
  by_cases c : vMoves l ms ∧ ¬ Clsh l ms 0
  · rcases h.2 c with ⟨k', hk', e, h1, h2⟩ | ⟨e, -⟩
    · have hkk : k' = k := by omega
      subst hkk
      constructor
      · cases a with
        | false => rfl
        | true =>
          have := (ha.1 rfl).2
          rw [rowsAt_take l ms (by omega)] at this
          exact absurd this h1
      · refine hb.2 ⟨vMoves_take c.1 _, ?_⟩
        rw [rowsAt_take l ms (by omega)]
        have : ¬ Clsh l ms k' := by
          cases k' with
          | zero => exact c.2
          | succ j => exact h2 j (by omega)
        exact Classical.byContradiction this
    · omega
  · have := h.1 c; omega
end Go.Proofs.Ytppbmhlmbepneaa
