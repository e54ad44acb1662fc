/-
  Values, columns and changes as flat records; rows of flat records in memory, read and owned. No program stands here.
-/
import Derived.Test.YtdijcdadcbhipaaDoorBase
import Derived.Test.YtdijcdadcbhipaaDoorOwn
import Derived.Test.YtdijcdadcbhipaaDoorQuiet
import Derived.Lib.SliceRun
import Derived.Lib.AppendZeros
set_option linter.all false
namespace Go.Proofs.YtdijcdadcbhipaaDoor
open Go.RowKit
structure RVal where
  k : Int
  n : Int
  s : ByteArray
structure RCol where
  k : Int
  d : RVal
structure RChg where
  k : Int
  a : Int
  c : RCol
def vEnc (v : RVal) : List Value := [.int .i64 v.k, .int .i64 v.n, .string v.s]
def cEnc (v : RCol) : List Value := [.int .i64 v.k, .int .i64 v.d.k, .int .i64 v.d.n, .string v.d.s]
def hEnc (v : RChg) : List Value := [.int .i64 v.k, .int .i64 v.a, .int .i64 v.c.k, .int .i64 v.c.d.k, .int .i64 v.c.d.n, .string v.c.d.s]
def okV (v : RVal) : Prop := v.s.size ≤ 9223372036854775807
def okC (c : RCol) : Prop := okV c.d
def okH (c : RChg) : Prop := okC c.c
theorem vEnc_len (v : RVal) : (vEnc v).length = 3 := rfl
theorem cEnc_len (v : RCol) : (cEnc v).length = 4 := rfl
theorem hEnc_len (v : RChg) : (hEnc v).length = 6 := rfl
theorem vEnc_one (v : RVal) : ∀ u ∈ vEnc v, u.oneCell' = true := by
  intro u hu; simp [vEnc] at hu; rcases hu with rfl | rfl | rfl <;> rfl
theorem cEnc_one (v : RCol) : ∀ u ∈ cEnc v, u.oneCell' = true := by
  intro u hu; simp [cEnc] at hu; rcases hu with rfl | rfl | rfl | rfl <;> rfl
theorem hEnc_one (v : RChg) : ∀ u ∈ hEnc v, u.oneCell' = true := by
  intro u hu; simp [hEnc] at hu; rcases hu with rfl | rfl | rfl | rfl | rfl | rfl <;> rfl
theorem flat_one {α : Type} {enc : α → List Value} (h1 : ∀ x, ∀ u ∈ enc x, u.oneCell' = true) (l : List α) : ∀ u ∈ l.flatMap enc, u.oneCell' = true := by
  intro u hu
  obtain ⟨e, -, he⟩ := List.mem_flatMap.1 hu
  exact h1 e u he
theorem flat_at {α : Type} {enc : α → List Value} {k : Nat} (h : ∀ x, (enc x).length = k) (l : List α) (i : Nat) (hi : i < l.length) (j : Nat) (hj : j < k) : (l.flatMap enc)[i * k + j]? = (enc l[i])[j]? := by
  induction l generalizing i with
  | nil => simp at hi
  | cons x l ih =>
    rw [List.flatMap_cons]
    cases i with
    | zero => rw [Nat.zero_mul, Nat.zero_add, List.getElem?_append_left (by rw [h]; exact hj)]; rfl
    | succ i =>
      rw [List.getElem?_append_right (by rw [h, Nat.succ_mul]; omega), h, Nat.succ_mul, show i * k + k + j - k = i * k + j by omega]
      exact ih i (by simpa using hi)
theorem flat_split {k j : Nat} (hk : 0 < k) (n : Nat) (hj : j < n * k) : ∃ i t, i < n ∧ t < k ∧ j = i * k + t :=
  ⟨j / k, j % k, by rw [Nat.div_lt_iff_lt_mul hk]; exact hj, Nat.mod_lt _ hk, by rw [Nat.mul_comm]; exact (Nat.div_add_mod j k).symm⟩
/-- a row of records that can be read -/
def Recs {α : Type} (enc : α → List Value) (k : Nat) (w : World) (v : Value) (l : List α) : Prop :=
  ∃ a cap, v = .slice a l.length cap ∧ l.length ≤ cap ∧ cap ≤ 9223372036854775807 ∧ (a = none → cap = 0) ∧
    (l = [] ∨ ∃ b off, a = some ⟨b, off, none⟩ ∧ b < w.heap.size ∧ ∀ i (h : i < l.length) j u, (enc l[i])[j]? = some u → w.cell? ⟨b, off + i * k + j, none⟩ = some u)
theorem Recs.keep {α : Type} {enc : α → List Value} {k : Nat} {w w' : World} {v : Value} {l : List α} (h : Recs enc k w v l) (hb : Below w.heap.size w w') : Recs enc k w' v l := by
  obtain ⟨a, cap, hv, h1, h2, hn, h3⟩ := h
  refine ⟨a, cap, hv, h1, h2, hn, ?_⟩
  rcases h3 with h3 | ⟨b, off, e, hlt, hc⟩
  · exact .inl h3
  · exact .inr ⟨b, off, e, Nat.lt_of_lt_of_le hlt hb.size, fun i hi j u hu => (hb.cell (p := ⟨b, _, none⟩) hlt).trans (hc i hi j u hu)⟩
theorem Recs.shape {α : Type} {enc : α → List Value} {k : Nat} {w : World} {v : Value} {l : List α} (h : Recs enc k w v l) : ∃ a c, v = .slice a l.length c ∧ l.length ≤ c ∧ c ≤ 9223372036854775807 := by
  obtain ⟨a, c, rfl, h1, h2, -⟩ := h
  exact ⟨a, c, rfl, h1, h2⟩
theorem recs_nil {α : Type} {enc : α → List Value} {k : Nat} (w : World) : Recs enc k w (.slice none 0 0) ([] : List α) :=
  ⟨none, 0, rfl, Nat.le_refl _, by omega, fun _ => rfl, .inl rfl⟩
/-- the cells that follow one another -/
theorem Recs.news {α : Type} {enc : α → List Value} {k : Nat} (hk : 0 < k) (he : ∀ x, (enc x).length = k) {w : World} {b off : Nat} {l : List α} (hc : ∀ i (h : i < l.length) j u, (enc l[i])[j]? = some u → w.cell? ⟨b, off + i * k + j, none⟩ = some u) :
    ∀ j u, (l.flatMap enc)[j]? = some u → w.cell? ⟨b, off + j, none⟩ = some u := by
  intro j u hu
  have hj : j < l.length * k := by rw [← flat_len he l]; exact (List.getElem?_eq_some_iff.1 hu).1
  obtain ⟨i, t, hi, ht, rfl⟩ := flat_split hk l.length hj
  rw [flat_at he l i hi t ht] at hu
  rw [← Nat.add_assoc]
  exact hc i hi t u hu
theorem Recs.news' {α : Type} {enc : α → List Value} {k : Nat} (hk : 0 < k) (he : ∀ x, (enc x).length = k) {w : World} {a : Option Addr} {n c : Nat} {l : List α} (h : Recs enc k w (.slice a n c) l) :
    n = l.length ∧ ((a = none ∧ l = [] ∧ c = 0) ∨ ∃ ad, a = some ad ∧ ∀ j u, (l.flatMap enc)[j]? = some u → w.cell? (ad.add j) = some u) := by
  obtain ⟨a', cap, hv, h1, h2, hn, h3⟩ := h
  injection hv with e1 e2 e3
  subst e1; subst e3
  refine ⟨e2, ?_⟩
  cases a with
  | none =>
    have := hn rfl
    subst this
    exact .inl ⟨rfl, List.length_eq_zero_iff.1 (by omega), rfl⟩
  | some ad =>
    refine .inr ⟨ad, rfl, ?_⟩
    rcases h3 with rfl | ⟨b, off, e, hlt, hc⟩
    · intro j u hu; simp at hu
    · injection e with e
      subst e
      intro j u hu
      rw [Addr.add_lit]; exact Recs.news hk he hc j u hu
/-- the part of a row that lies from i to j -/
theorem Recs.sub {α : Type} {enc : α → List Value} {k : Nat} {w : World} {a : Option Addr} {n c : Nat} {l : List α} (h : Recs enc k w (.slice a n c) l) (i j : Nat) (hij : i ≤ j) (hj : j ≤ l.length) {a' : Option Addr} (hz : a' = none → c - i = 0)
    (ha : i < j → ∀ b off, a = some ⟨b, off, none⟩ → a' = some ⟨b, off + i * k, none⟩) : Recs enc k w (.slice a' (j - i) (c - i)) ((l.drop i).take (j - i)) := by
  obtain ⟨a0, cap, hv, h1, h2, hn, h3⟩ := h
  injection hv with e1 e2 e3
  subst e1; subst e2; subst e3
  have hl : ((l.drop i).take (j - i)).length = j - i := by rw [List.length_take, List.length_drop]; omega
  refine ⟨a', c - i, by rw [hl], by rw [hl]; omega, by omega, hz, ?_⟩
  by_cases hlt : i < j
  · rcases h3 with rfl | ⟨b, off, rfl, hb, hc⟩
    · simp at hj; omega
    · refine .inr ⟨b, off + i * k, ha hlt b off rfl, hb, fun t ht q u hu => ?_⟩
      rw [hl] at ht
      have := hc (i + t) (by omega) q u (by rw [← hu]; congr 1; simp)
      rw [← this]
      congr 2
      rw [Nat.add_mul]; omega
  · exact .inl (List.length_eq_zero_iff.1 (by rw [hl]; omega))
/-- a row of records that the call owns -/
def OwnR {α : Type} (enc : α → List Value) (k : Nat) (e : TypeId) (B : Nat) (w : World) (v : Value) (l : List α) : Prop := w.ownsRow B e k v l.length (l.flatMap enc)
theorem OwnR.recs {α : Type} {enc : α → List Value} {k : Nat} {e : TypeId} (he : ∀ x, (enc x).length = k) {B : Nat} {w : World} {v : Value} {l : List α} (h : OwnR enc k e B w v l) : Recs enc k w v l := by
  unfold OwnR at h
  have h' := h
  rcases h.2 with ⟨rfl, hn⟩ | ⟨g, cap, cur, rfl, hb, hg, hnc, hcm, hcs, htake⟩
  · have : l = [] := List.length_eq_zero_iff.1 hn
    subst this
    exact recs_nil w
  · refine ⟨_, cap, rfl, hnc, by unfold maxLen at hcm; omega, (fun h => by cases h), .inr ⟨g, 0, rfl, lt_block hg, fun i hi j u hu => ?_⟩⟩
    have hj : j < k := by rw [← he l[i]]; exact (List.getElem?_eq_some_iff.1 hu).1
    have hlt : i * k + j < l.length * k := by
      have : i * k + k ≤ l.length * k := by rw [← Nat.succ_mul]; exact Nat.mul_le_mul_right _ hi
      omega
    rw [show 0 + i * k + j = i * k + j by omega, World.ownsRow.cellAt h' _ hlt, flat_at he l i hi j hj]
    exact hu
theorem OwnR.keep {α : Type} {enc : α → List Value} {k : Nat} {e : TypeId} {B : Nat} {w w' : World} {v : Value} {l : List α} (h : OwnR enc k e B w v l) (hb : Below w.heap.size w w') : OwnR enc k e B w' v l := by
  refine World.ownsRow.kept h (grown_below hb none) ?_
  cases hv : v.ownBlock <;> simp
theorem OwnR.alloc {α : Type} {enc : α → List Value} {k : Nat} {e : TypeId} {B : Nat} {w : World} {v : Value} {l : List α} (h : OwnR enc k e B w v l) (o : Obj) : OwnR enc k e B (w.alloc o) v l := World.ownsRow.alloc h o
theorem OwnR.mono {α : Type} {enc : α → List Value} {k : Nat} {e : TypeId} {B C : Nat} {w : World} {v : Value} {l : List α} (h : OwnR enc k e B w v l) (hC : C ≤ B) : OwnR enc k e C w v l := by
  refine ⟨h.1, ?_⟩
  rcases h.2 with h | ⟨g, cap, cur, h1, h2, h3⟩
  · exact .inl h
  · exact .inr ⟨g, cap, cur, h1, Nat.le_trans hC h2, h3⟩
theorem own_slc {B size n : Nat} {e : TypeId} {w : World} {v : Value} {xs : List Value} (h : w.ownsRow B e size v n xs) : ∃ a c, v = .slice a n c ∧ n ≤ c ∧ c ≤ 9223372036854775807 := by
  rcases h.2 with ⟨rfl, h0⟩ | ⟨g, cap, cur, rfl, _, _, h1, h2, _⟩
  · exact ⟨none, 0, by rw [h0], by omega, by omega⟩
  · exact ⟨_, cap, rfl, h1, h2⟩
/-- append of records that lie somewhere to a row of records that the call owns -/
theorem wpList_appR {P : Program} {α : Type} {enc : α → List Value} {k : Nat} (hk : 0 < k) (he : ∀ x, (enc x).length = k) (h1 : ∀ x, ∀ u ∈ enc x, u.oneCell' = true) {w : World} {ops : Array Oper} {rest : List Oper} {o : Oper} {a : Act} {Q : Exit → Act → World → Prop} (hgd : o.guard = none) (s x : Operand) (T E : TypeId)
    (ho : o.op = .call { callee := .builtin .append, args := #[s, x], argTypes := #[T, T] }) (bytes : Nat) (hbt : bytes ≤ 100) (hT : P.underlying T = some (.slice E)) (z : Value) (hinfo : (P.info? E).map (fun i => (i.zero, i.size, i.bytes)) = some (some z, k, bytes)) (hzl : z.cells.size = k)
    (B : Nat) (v0 : Value) (l0 : List α) (hs : a.eval s = v0) (hown : OwnR enc k E B w v0 l0) (h0 : l0.length ≤ 1048576)
    (v : Value) (l : List α) (hx : a.eval x = v) (h : Recs enc k w v l) (hn : l.length ≤ 1048576) (hB : B ≤ w.heap.size)
    (hK : ∀ v' w', OwnR enc k E B w' v' (l0 ++ l) → w.grownBy w' v0.ownBlock → wpList P ops Q rest (a.put o.dst v') w') : wpList P ops Q (o :: rest) a w := by
  obtain ⟨i0, hi, hz0, hz1, hz2⟩ := info_parts hinfo
  obtain ⟨ao, cap, rfl, hl, hcap⟩ := h.shape
  have happ : (l0 ++ l).flatMap enc = l0.flatMap enc ++ l.flatMap enc := List.flatMap_append
  obtain ⟨-, ⟨rfl, rfl, rfl⟩ | ⟨ad, rfl, hnews⟩⟩ := h.news' hk he
  · have hrun := run_append_owned_none (P := P) w B T o.type E i0 k hT hi v0 l0.length (l0.flatMap enc) hown
    refine Lib.wpList_append_run w hgd s x _ _ ho _ _ hs hx _ _ hrun ?_
    exact hK v0 w (by rw [List.append_nil]; exact hown) (World.grownBy.refl _ _)
  · refine wpList_append_own w hgd s x T ho B E i0 _ k bytes hT hi hz0 hz1 hz2 hzl hk v0 l0.length (l0.flatMap enc) hs hown ad l.length cap (l.flatMap enc) hx (flat_len he l) hnews (flat_one h1 l) (by unfold maxLen; omega) (by have h9 := Nat.mul_le_mul (show l0.length + l.length ≤ 2097152 by omega) hbt; omega) hB ?_
    intro v' w' h1 h2 _
    refine hK v' w' ?_ h2
    unfold OwnR
    rw [happ, List.length_append]
    exact h1
/-- the same append as a step of a region that draws its order -/
theorem step_appR {P : Program} {α : Type} {enc : α → List Value} {k : Nat} (hk : 0 < k) (he : ∀ x, (enc x).length = k) (h1 : ∀ x, ∀ u ∈ enc x, u.oneCell' = true) {w : World} {ops : Array Oper} {o : Oper} {a : Act} {K : Act → World → Prop} {Q : Exit → Act → World → Prop} {E' : Prop} (hgd : o.guard = none) (s x : Operand) (T E : TypeId)
    (ho : o.op = .call { callee := .builtin .append, args := #[s, x], argTypes := #[T, T] }) (bytes : Nat) (hbt : bytes ≤ 100) (hT : P.underlying T = some (.slice E)) (z : Value) (hinfo : (P.info? E).map (fun i => (i.zero, i.size, i.bytes)) = some (some z, k, bytes)) (hzl : z.cells.size = k)
    (B : Nat) (v0 : Value) (l0 : List α) (hs : a.eval s = v0) (hown : OwnR enc k E B w v0 l0) (h0 : l0.length ≤ 1048576)
    (v : Value) (l : List α) (hx : a.eval x = v) (h : Recs enc k w v l) (hn : l.length ≤ 1048576) (hB : B ≤ w.heap.size)
    (hK : ∀ v' w', OwnR enc k E B w' v' (l0 ++ l) → w.grownBy w' v0.ownBlock → K (a.put o.dst v') w') : if Region.wanted o (yielded ops a.tmps) = true then Oper.wp P o a w K Q else E' := by
  have hw : Region.wanted o (yielded ops a.tmps) = true := by simp [Region.wanted, hgd]
  rw [if_pos hw]
  obtain ⟨i0, hi, hz0, hz1, hz2⟩ := info_parts hinfo
  obtain ⟨ao, cap, rfl, hl, hcap⟩ := h.shape
  have happ : (l0 ++ l).flatMap enc = l0.flatMap enc ++ l.flatMap enc := List.flatMap_append
  unfold Oper.wp execOp
  obtain ⟨-, ⟨rfl, rfl, rfl⟩ | ⟨ad, rfl, hnews⟩⟩ := h.news' hk he
  · have hr := run_append_owned_none (P := P) w B T o.type E i0 k hT hi v0 l0.length (l0.flatMap enc) hown
    simp only [ho, resolve, invoke, builtin, Sem.run_bind, Sem.run_pure, Result.andThen_ok, List.map_toArray, List.map_cons, List.map_nil, hs, hx]
    simp only [List.length_nil] at *
    rw [hr]
    exact hK v0 w (by rw [List.append_nil]; exact hown) (World.grownBy.refl _ _)
  · obtain ⟨v', w', hr, h2, h3, -, -⟩ := run_append_own_at (P := P) w B T o.type E i0 z k bytes hT hi hz0 hz1 hz2 hzl hk v0 l0.length (l0.flatMap enc) hown ad l.length cap (l.flatMap enc) (flat_len he l) hnews (flat_one h1 l) (by unfold maxLen; omega) (by have h9 := Nat.mul_le_mul (show l0.length + l.length ≤ 2097152 by omega) hbt; omega) hB
    simp only [ho, resolve, invoke, builtin, Sem.run_bind, Sem.run_pure, Result.andThen_ok, List.map_toArray, List.map_cons, List.map_nil, hs, hx, hr]
    refine hK v' w' ?_ h3
    unfold OwnR
    rw [happ, List.length_append]
    exact h2
/-- a literal of one record -/
theorem recs_lit {α : Type} {enc : α → List Value} {k : Nat} (he : ∀ x, (enc x).length = k) (x : α) {W : World} {b : Nat} {t : TypeId} (h : W.heap[b]? = some (.cells (enc x).toArray t (0, 0))) : Recs enc k W (.slice (some ⟨b, 0, none⟩) 1 1) [x] := by
  refine ⟨_, 1, rfl, Nat.le_refl _, by omega, (fun h => by cases h), .inr ⟨b, 0, rfl, lt_block h, fun i hi j u hu => ?_⟩⟩
  have h0 : i = 0 := by simpa using hi
  subst h0
  rw [cell_block h]
  simpa using hu
theorem own_lit {α : Type} {enc : α → List Value} {k : Nat} {W : World} {B : Nat} {e : TypeId} (hB : B ≤ W.heap.size) : OwnR enc k e B (W.alloc (.cells #[] e)) (.slice (some ⟨W.heap.size, 0, none⟩) 0 0) ([] : List α) := by
  exact World.ownsRow_lit W #[] 0 hB (by decide) (by simp)
/-- an owned row that is not empty lies in a block of its own -/
theorem OwnR.at {α : Type} {enc : α → List Value} {k : Nat} {e : TypeId} {B : Nat} {w : World} {v : Value} {l : List α} (h : OwnR enc k e B w v l) (hl : 1 ≤ l.length) : ∃ g c, v = .slice (some ⟨g, 0, none⟩) l.length c ∧ B ≤ g ∧ g < w.heap.size ∧ l.length ≤ c ∧ c ≤ 9223372036854775807 := by
  rcases h.2 with ⟨rfl, h0⟩ | ⟨g, cap, cur, rfl, hB, hg, h1, h2, _⟩
  · omega
  · exact ⟨g, cap, rfl, hB, lt_block hg, h1, h2⟩
/-- a record is replaced -/
theorem OwnR.set {α : Type} {enc : α → List Value} {k : Nat} (hk : 0 < k) (he : ∀ x, (enc x).length = k) {e : TypeId} {B : Nat} {w : World} {g n c : Nat} {l : List α} (h : OwnR enc k e B w (.slice (some ⟨g, 0, none⟩) n c) l) (hn : n = l.length) (i : Nat) (hi : i < l.length) (x : α) :
    OwnR enc k e B (w.setCells g (i * k) (enc x)) (.slice (some ⟨g, 0, none⟩) n c) (l.set i x) := by
  subst hn
  obtain ⟨cur, hg, hs, hc, hnc, hB, hl, hx⟩ := own_at h
  have hik : i * k + k ≤ l.length * k := by rw [← Nat.succ_mul]; exact Nat.mul_le_mul_right _ hi
  have hnk : l.length * k ≤ c * k := Nat.mul_le_mul_right _ hnc
  unfold OwnR
  rw [List.length_set]
  refine own_of hB (heap_setCells (enc x) (i * k) hg) (by rw [putC_size]; exact hs) hc hnc (by rw [flat_len he, List.length_set]) fun j hj => ?_
  rw [flat_len he, List.length_set] at hj
  obtain ⟨q, t, hq, ht, rfl⟩ := flat_split hk l.length hj
  rw [flat_at he _ q (by rw [List.length_set]; exact hq) t ht]
  by_cases hqi : q = i
  · subst hqi
    rw [putC_at (by rw [he]; omega) (by omega) (by rw [he]; omega), List.getElem_set_self, Nat.add_sub_cancel_left]
  · rw [List.getElem_set_ne (by omega), ← flat_at he l q hq t ht, ← hx _ (by rw [hl]; exact hj)]
    rcases Nat.lt_or_ge q i with h1 | h1
    · have : q * k + k ≤ i * k := by rw [← Nat.succ_mul]; exact Nat.mul_le_mul_right _ h1
      exact putC_out _ _ _ _ (.inl (by omega))
    · have : i * k + k ≤ q * k := by rw [← Nat.succ_mul]; exact Nat.mul_le_mul_right _ (by omega)
      exact putC_out _ _ _ _ (.inr (by rw [he]; omega))
theorem cells3 {w : World} {b : Nat} {t : TypeId} {a0 a1 a2 : Value} (h : w.heap[b]? = some (.cells #[a0, a1, a2] t (0, 0))) :
    (w.cell? ⟨b, 0, none⟩ = some a0 ∧ w.cell? ⟨b, 1, none⟩ = some a1 ∧ w.cell? ⟨b, 2, none⟩ = some a2) ∧ (w.frozen? ⟨b, 0, none⟩ = false ∧ w.frozen? ⟨b, 1, none⟩ = false ∧ w.frozen? ⟨b, 2, none⟩ = false) := by
  simp [World.cell?, World.frozen?, h]
theorem cells4 {w : World} {b : Nat} {t : TypeId} {a0 a1 a2 a3 : Value} (h : w.heap[b]? = some (.cells #[a0, a1, a2, a3] t (0, 0))) :
    (w.cell? ⟨b, 0, none⟩ = some a0 ∧ w.cell? ⟨b, 1, none⟩ = some a1 ∧ w.cell? ⟨b, 2, none⟩ = some a2 ∧ w.cell? ⟨b, 3, none⟩ = some a3) ∧ (w.frozen? ⟨b, 0, none⟩ = false ∧ w.frozen? ⟨b, 1, none⟩ = false ∧ w.frozen? ⟨b, 2, none⟩ = false ∧ w.frozen? ⟨b, 3, none⟩ = false) := by
  simp [World.cell?, World.frozen?, h]
theorem cells6 {w : World} {b : Nat} {t : TypeId} {a0 a1 a2 a3 a4 a5 : Value} (h : w.heap[b]? = some (.cells #[a0, a1, a2, a3, a4, a5] t (0, 0))) :
    (w.cell? ⟨b, 0, none⟩ = some a0 ∧ w.cell? ⟨b, 1, none⟩ = some a1 ∧ w.cell? ⟨b, 2, none⟩ = some a2 ∧ w.cell? ⟨b, 3, none⟩ = some a3 ∧ w.cell? ⟨b, 4, none⟩ = some a4 ∧ w.cell? ⟨b, 5, none⟩ = some a5) ∧ (w.frozen? ⟨b, 0, none⟩ = false ∧ w.frozen? ⟨b, 1, none⟩ = false ∧ w.frozen? ⟨b, 2, none⟩ = false ∧ w.frozen? ⟨b, 3, none⟩ = false ∧ w.frozen? ⟨b, 4, none⟩ = false ∧ w.frozen? ⟨b, 5, none⟩ = false) := by
  simp [World.cell?, World.frozen?, h]
/-- the cells of one record -/
theorem at3 {w : World} {b o : Nat} {v : RVal} (h : ∀ j u, (vEnc v)[j]? = some u → w.cell? ⟨b, o + j, none⟩ = some u) :
    w.cell? ⟨b, o, none⟩ = some (.int .i64 v.k) ∧ w.cell? ⟨b, o + 1, none⟩ = some (.int .i64 v.n) ∧ w.cell? ⟨b, o + 2, none⟩ = some (.string v.s) := ⟨h 0 _ rfl, h 1 _ rfl, h 2 _ rfl⟩
theorem at4 {w : World} {b o : Nat} {c : RCol} (h : ∀ j u, (cEnc c)[j]? = some u → w.cell? ⟨b, o + j, none⟩ = some u) :
    w.cell? ⟨b, o, none⟩ = some (.int .i64 c.k) ∧ w.cell? ⟨b, o + 1, none⟩ = some (.int .i64 c.d.k) ∧ w.cell? ⟨b, o + 2, none⟩ = some (.int .i64 c.d.n) ∧ w.cell? ⟨b, o + 3, none⟩ = some (.string c.d.s) := ⟨h 0 _ rfl, h 1 _ rfl, h 2 _ rfl, h 3 _ rfl⟩
theorem at6 {w : World} {b o : Nat} {c : RChg} (h : ∀ j u, (hEnc c)[j]? = some u → w.cell? ⟨b, o + j, none⟩ = some u) :
    w.cell? ⟨b, o, none⟩ = some (.int .i64 c.k) ∧ w.cell? ⟨b, o + 1, none⟩ = some (.int .i64 c.a) ∧ w.cell? ⟨b, o + 2, none⟩ = some (.int .i64 c.c.k) ∧ w.cell? ⟨b, o + 3, none⟩ = some (.int .i64 c.c.d.k) ∧ w.cell? ⟨b, o + 4, none⟩ = some (.int .i64 c.c.d.n) ∧ w.cell? ⟨b, o + 5, none⟩ = some (.string c.c.d.s) := ⟨h 0 _ rfl, h 1 _ rfl, h 2 _ rfl, h 3 _ rfl, h 4 _ rfl, h 5 _ rfl⟩
theorem take_all_snoc {α : Type} {p : α → Bool} {l : List α} {k : Nat} (h : k < l.length) : (l.take (k + 1)).all p = ((l.take k).all p && p l[k]) := by
  rw [List.take_succ_eq_append_getElem h, List.all_append]; simp
theorem all_at_false {α : Type} {p : α → Bool} {l : List α} {k : Nat} (h : k < l.length) (hb : p l[k] = false) : l.all p = false := by
  rw [List.all_eq_false]; exact ⟨l[k], List.getElem_mem h, by simp [hb]⟩
theorem Below.keep_cell {w : World} {p : Addr} {v : Value} (h : w.cell? p = some v) (o : Obj) : (w.alloc o).cell? p = some v := ((Below.refl w.heap.size w).alloc (Nat.le_refl _) o).cell (lt_cell h) |>.trans h
theorem below_box (w : World) (o : Obj) : Below w.heap.size w (w.alloc o) := (Below.refl _ _).alloc (Nat.le_refl _) _
theorem below_box2 (w : World) (o o' : Obj) : Below w.heap.size w ((w.alloc o).alloc o') := (below_box w o).alloc (by simp) _
theorem bw_cell {w : World} {p : Addr} {v : Value} (hp : p.block < w.heap.size) (h : w.cell? p = some v) (z : BW w) : z.v.cell? p = some v := (z.h.cell hp).trans h
end Go.Proofs.YtdijcdadcbhipaaDoor
