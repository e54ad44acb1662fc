/-
  The plain laws of trees: what the weak laws say of lists of leaves. No program stands here.
-/
import Derived.Test.YtmlphdniiiijpaaTreeG6
import Derived.Deep.DeepCutAuto
set_option linter.all false
namespace Go.Proofs.Ytmlphdniiiijpaa
theorem own_nilLit {W : Go.World} {g B : Nat} (h : W.heap[g]? = some (.cells #[] 38 (0, 0))) (hB : B ≤ g) : OwnI B W (.slice (some ⟨g, 0, none⟩) 0 0) [] :=
  own_of hB h (by rfl) (by unfold Go.maxLen; omega) (Nat.le_refl _) (by rfl) (fun j hj => absurd hj (Nat.not_lt_zero j))
section
open Go.RowKit
variable (w : World)
/-- append of any items to a row of items that the call owns, as a step of a region that draws its order -/
theorem step_appI {ops : Array Oper} {o : Oper} {a : Act} {K : Act → World → Prop} {Q : Exit → Act → World → Prop} {E : Prop} (hgd : o.guard = none) (s x : Operand)
    (ho : o.op = .call { callee := .builtin .append, args := #[s, x], argTypes := #[28, 28] })
    (B : Nat) (v0 : Value) (l0 : List Itm) (hs : a.eval s = v0) (hown : OwnI B w v0 l0) (h0 : l0.length ≤ 1048576)
    (v : Value) (l : List Itm) (hx : a.eval x = v) (h : Itms w v l) (hnil : NilOk v) (hn : l.length ≤ 1048576) (hB : B ≤ w.heap.size)
    (hK : ∀ v' w', OwnI B w' v' (l0 ++ l) → w.grownBy w' v0.ownBlock → K (a.put o.dst v') w') :
    if Region.wanted o (yielded ops a.tmps) = true then Oper.wp Try.prog o a w K Q else E := by
  have hw : Region.wanted o (yielded ops a.tmps) = true := by simp [Region.wanted, hgd]
  rw [if_pos hw]
  obtain ⟨i0, hi, hz0, hz1, hz2⟩ := info_parts infoI
  obtain ⟨ao, cap, rfl, hl, hcap, hd⟩ := h
  have happ : itmCells (l0 ++ l) = itmCells l0 ++ itmCells l := by simp [itmCells]
  cases ao with
  | none =>
    have hl0 : l = [] := by
      rcases hd with hd | ⟨b, off, he, -⟩
      · exact hd
      · cases he
    subst hl0
    have hc := hnil 0 cap rfl
    subst hc
    simp only [List.length_nil] at hx
    have hrun := run_append_owned_none (P := Try.prog) w B 28 o.type 38 i0 2 Try.underlying28 hi v0 l0.length (itmCells l0) hown
    unfold Oper.wp execOp
    simp only [ho, resolve, invoke, builtin, Sem.run_bind, Sem.run_pure, Result.andThen_ok, List.map_toArray, List.map_cons, List.map_nil, hs, hx, hrun]
    exact hK v0 w (by rw [List.append_nil]; exact hown) (World.grownBy.refl _ _)
  | some ad =>
    have hnews : ∀ j u, (itmCells l)[j]? = some u → w.cell? (ad.add j) = some u := by
      rcases hd with rfl | ⟨b, off, he, -, hc⟩
      · intro j u hu; simp [itmCells] at hu
      · injection he with he
        subst he
        intro j u hu
        rw [Addr.add_lit]; exact itms_news hc j u hu
    obtain ⟨v', w', hrun, h2, h3, -, -⟩ := run_append_own_at (P := Try.prog) w B 28 o.type 38 i0 _ 2 16 Try.underlying28 hi hz0 hz1 hz2 rfl (by decide) v0 l0.length (itmCells l0) hown ad l.length cap (itmCells l) (itmCells_len l) hnews (itmCells_one l) (by unfold maxLen; omega) (by omega) hB
    unfold Oper.wp execOp
    simp only [ho, resolve, invoke, builtin, Sem.run_bind, Sem.run_pure, Result.andThen_ok, List.map_toArray, List.map_cons, List.map_nil, hs, hx, hrun]
    refine hK v' w' ?_ h3
    unfold OwnI
    rw [happ, List.length_append]
    exact h2
end
open Go.RowKit in
theorem lholds_is (v : Value) (l : List Itm) (x : Itm) (w : World) (h : Itms w v l) {q : Bool} (hq : hasI l x = q) :
    Calls Try.prog 28 #[v, .agg #[.int .i64 x.k, .int .i64 x.r]] w fun e w' => e = .returned (.bool q) ∧ Below w.heap.size w w' :=
  (lholds_any v l x w h).mono fun _ _ ⟨h1, h2⟩ => ⟨h1.trans (by rw [hq]), h2⟩
theorem lvs_any {w : World} {v : Value} {t : List (List Itm)} (h : Lvs w v t) : ∃ a n c, v = .slice a n c := by
  obtain ⟨a, c, e⟩ := h.nil_eq
  exact ⟨a, _, c, e⟩
theorem ChgOf.yes {ok : Prop} {s r : List (List Itm)} (h : ChgOf ok s r true) : ok ∧ r = s := by
  by_cases c : ok
  · exact ⟨c, (h.1 c).2⟩
  · have := (h.2 c).1; cases this
theorem hasI_false {l : List Itm} {x : Itm} : hasI l x = false ↔ x ∉ l := by
  constructor
  · intro h hx; rw [hasI_iff.2 hx] at h; cases h
  · intro h
    cases c : hasI l x with
    | false => rfl
    | true => exact absurd (hasI_iff.1 c) h
theorem TIOf.of {t : List (List Itm)} {r : List Itm} (h : TIOf t r) (hv : VT t) : r = flatT t := h.1 hv
theorem TIOf.uniq {t : List (List Itm)} {r r' : List Itm} (h : TIOf t r) (h' : TIOf t r') : r' = r := by
  by_cases c : VT t
  · rw [h.1 c, h'.1 c]
  · rw [h.2 c, h'.2 c]
theorem RngOf.uniq {t : List (List Itm)} {a b : Int} {r r' : List Itm} (h : RngOf t a b r) (h' : RngOf t a b r') : r' = r := by
  by_cases c : VT t
  · rw [h.1 c, h'.1 c]
  · rw [h.2 c, h'.2 c]
/-- what an insert that went well leaves -/
structure InsD (t r : List (List Itm)) (x : Itm) : Prop where
  vt : VT t
  vr : VT r
  fl : flatT r = putL (flatT t) x
  no : hasI (flatT t) x = false
  ha : hasI (flatT r) x = true
  ln : (flatT r).length = (flatT t).length + 1
  sub : ∀ y ∈ flatT t, hasI (flatT r) y = true
theorem insD {t r : List (List Itm)} {x : Itm} (h : ChgOf (insOk t x) (insT t x) r true) : InsD t r x := by
  obtain ⟨ok, rfl⟩ := h.yes
  have hf := flatT_ins ok.1.srt ok.1.ne x
  exact ⟨ok.1, VT.ins ok.1 ok.2.1 ok.2.2.1 ok.2.2.2, hf, ok.2.2.1, by rw [hf]; exact hasI_iff.2 (mem_putL'.2 (.inl rfl)), by rw [hf]; exact putL_len1 ok.1.srt ok.2.2.1, fun y hy => by rw [hf]; exact hasI_iff.2 (mem_putL'.2 (.inr hy))⟩
/-- what a delete that went well leaves -/
structure DelD (t r : List (List Itm)) (x : Itm) : Prop where
  vt : VT t
  vr : VT r
  fl : flatT r = delL (flatT t) x
  ha : hasI (flatT t) x = true
  no : hasI (flatT r) x = false
  ln : (flatT r).length + 1 = (flatT t).length
  sub : ∀ y ∈ flatT r, hasI (flatT t) y = true
theorem delD {t r : List (List Itm)} {x : Itm} (h : ChgOf (delOk t x) (delT t x) r true) : DelD t r x := by
  obtain ⟨ok, rfl⟩ := h.yes
  have hf := flatT_del ok.1.srt ok.1.ne x
  exact ⟨ok.1, VT.del ok.1 ok.2, hf, ok.2, by rw [hf, hasI_false, mem_delL]; exact fun h => h.2 rfl, by rw [hf]; exact delL_len1 ok.1.srt ok.2, fun y hy => by rw [hf, mem_delL] at hy; exact hasI_iff.2 hy.1⟩
/-- delete goes well exactly if the tree has the item -/
theorem del_has {t r : List (List Itm)} {x : Itm} {b : Bool} {l : List Itm} (h : ChgOf (delOk t x) (delT t x) r b) (hl : TIOf t l) : hasI l x = b := by
  by_cases c : VT t
  · rw [hl.1 c]
    by_cases c2 : delOk t x
    · rw [(h.1 c2).1]; exact c2.2
    · rw [(h.2 c2).1]
      cases q : hasI (flatT t) x with
      | false => rfl
      | true => exact absurd ⟨c, q⟩ c2
  · rw [hl.2 c, (h.2 (fun q => c q.1)).1]; rfl
theorem del_put {l : List Itm} {x : Itm} (hs : SrtI l) (h : hasI l x = false) : delL (putL l x) x = l := by
  refine srt_ext (srt_delL (srt_putL hs x) x) hs fun y => ?_
  rw [mem_delL, mem_putL']
  constructor
  · rintro ⟨h1 | h1, h2⟩
    · exact absurd h1 h2
    · exact h1
  · intro hy
    exact ⟨.inr hy, fun e => hasI_false.1 h (by rw [← e]; exact hy)⟩
/-- an insert taken back -/
theorem ins_back {t r : List (List Itm)} {x : Itm} (h : InsD t r x) {s : List (List Itm)} {b : Bool} (hd : ChgOf (delOk r x) (delT r x) s b) : b = true ∧ VT s ∧ flatT s = flatT t := by
  have ok : delOk r x := ⟨h.vr, h.ha⟩
  have hb := (hd.1 ok).1
  subst hb
  have d := delD hd
  exact ⟨rfl, d.vr, by rw [d.fl, h.fl]; exact del_put h.vt.srt h.no⟩
/-- a range of what is left after a delete -/
theorem rng_del {t r : List (List Itm)} {x : Itm} (h : DelD t r x) {a b : Int} {l m : List Itm} (hl : RngOf t a b l) (hm : RngOf r a b m) : m = delL l x := by
  rw [hl.1 h.vt, hm.1 h.vr, h.fl]
  unfold delL
  rw [List.filter_filter, List.filter_filter]
  congr 1
  funext y
  exact Bool.and_comm _ _
theorem delL_take {l : List Itm} {x : Itm} {k : Nat} (h : k < l.length) : delL (l.take (k + 1)) x = delL (l.take k) x ++ (if l[k].k == x.k && l[k].r == x.r then [] else [l[k]]) := by
  unfold delL
  rw [List.take_succ_eq_append_getElem h, List.filter_append]
  congr 1
  cases c : (l[k].k == x.k && l[k].r == x.r) with
  | true => rw [List.filter_cons_of_neg (by show ¬ (!(l[k].k == x.k && l[k].r == x.r)) = true; rw [c]; decide)]; rfl
  | false => rw [List.filter_cons_of_pos (by show (!(l[k].k == x.k && l[k].r == x.r)) = true; rw [c]; rfl)]; rfl
/-- a range in two parts -/
theorem inK_parts {l : List Itm} (hs : SrtI l) {a m b : Int} (h1 : a ≤ m + 1) (h2 : m ≤ b) : l.filter (inK a m) ++ l.filter (inK (m + 1) b) = l.filter (inK a b) := by
  induction l with
  | nil => rfl
  | cons y ys ih =>
    have hp := List.pairwise_cons.1 hs
    have ih := ih hp.2
    have hle : ∀ z ∈ ys, y.k ≤ z.k := fun z hz => by
      have := hp.1 z hz
      unfold lessP lessI at this
      simp at this
      omega
    by_cases c1 : y.k ≤ m
    · have e2 : inK (m + 1) b y = false := by unfold inK; exact decide_eq_false (by omega)
      rw [List.filter_cons_of_neg (p := inK (m + 1) b) (by simp [e2])]
      by_cases c0 : a ≤ y.k
      · have e1 : inK a m y = true := by unfold inK; exact decide_eq_true (by omega)
        have e3 : inK a b y = true := by unfold inK; exact decide_eq_true (by omega)
        rw [List.filter_cons_of_pos (p := inK a m) e1, List.filter_cons_of_pos (p := inK a b) e3, List.cons_append, ih]
      · have e1 : inK a m y = false := by unfold inK; exact decide_eq_false (by omega)
        have e3 : inK a b y = false := by unfold inK; exact decide_eq_false (by omega)
        rw [List.filter_cons_of_neg (p := inK a m) (by simp [e1]), List.filter_cons_of_neg (p := inK a b) (by simp [e3]), ih]
    · have e0 : ∀ z ∈ y :: ys, inK a m z = false := fun z hz => by
        unfold inK
        rcases List.mem_cons.1 hz with rfl | hz
        · exact decide_eq_false (by omega)
        · have := hle z hz; exact decide_eq_false (by omega)
      have en : (y :: ys).filter (inK a m) = [] := List.filter_eq_nil_iff.2 fun z hz => by simp [e0 z hz]
      rw [en, List.nil_append]
      refine List.filter_congr fun z hz => ?_
      have hz2 : m + 1 ≤ z.k := by
        rcases List.mem_cons.1 hz with rfl | hz
        · omega
        · have := hle z hz; omega
      unfold inK
      by_cases c : z.k ≤ b
      · rw [decide_eq_true (by omega), decide_eq_true (by omega)]
      · rw [decide_eq_false (by omega), decide_eq_false (by omega)]
theorem rng_parts {t : List (List Itm)} {a m b : Int} {l p q : List Itm} (h1 : a ≤ m + 1) (h2 : m ≤ b) (hl : RngOf t a b l) (hp : RngOf t a m p) (hq : RngOf t (m + 1) b q) : p ++ q = l := by
  by_cases c : VT t
  · rw [hl.1 c, hp.1 c, hq.1 c]; exact inK_parts c.srt h1 h2
  · rw [hl.2 c, hp.2 c, hq.2 c]; rfl
theorem rng_in {t : List (List Itm)} {a b : Int} {l : List Itm} (h : RngOf t a b l) {y : Itm} (hy : y ∈ l) : a ≤ y.k ∧ y.k ≤ b := by
  by_cases c : VT t
  · rw [h.1 c] at hy
    have := (List.mem_filter.1 hy).2
    unfold inK at this
    simpa using this
  · rw [h.2 c] at hy; cases hy
theorem rng_all {t : List (List Itm)} {l m : List Itm} (h : RngOf t 0 999999 l) (hm : TIOf t m) : m = l := by
  by_cases c : VT t
  · rw [h.1 c, hm.1 c, List.filter_eq_self.2 fun y hy => ?_]
    have := ordI_okT c.ord y hy
    unfold okI at this
    have h3 := of_decide_eq_true this
    unfold inK
    exact decide_eq_true (by omega)
  · rw [h.2 c, hm.2 c]
/-- what a load that went well leaves -/
structure LoadD (l : List Itm) (r : List (List Itm)) : Prop where
  vr : VT r
  fl : flatT r = l
  n : l.length ≤ 30
  sz : ∀ i (h : i < r.length), ∀ h0 : 0 < r.length, r[i].length ≤ r[0].length ∧ r[0].length ≤ r[i].length + 1
theorem loadD {l : List Itm} {r : List (List Itm)} (h : ChgOf (ldOk l) (loadT l) r true) : LoadD l r := by
  obtain ⟨ok, rfl⟩ := h.yes
  refine ⟨VT.load ok.1 ok.2, flatT_load ok.2, ok.2, fun i hi h0 => ?_⟩
  have hlen : (loadT l).length = loadN l.length := by unfold loadT; simp
  have hsz : ∀ j (hj : j < (loadT l).length), (loadT l)[j].length = loadSz l.length j := fun j hj => by
    have hj' : j < loadN l.length := by rw [← hlen]; exact hj
    obtain ⟨h1, -⟩ := loadFrom_le l.length ok.2 hj'
    simp only [loadT, List.getElem_map, List.getElem_range, List.length_take, List.length_drop]; omega
  rw [hsz i hi, hsz 0 h0]
  unfold loadSz
  constructor
  · split <;> split <;> omega
  · split <;> split <;> omega
theorem load_all {t : List (List Itm)} (h : VT t) {r : List (List Itm)} {b : Bool} (hc : ChgOf (ldOk (flatT t)) (loadT (flatT t)) r b) : b = true ∧ VT r := by
  have ok : ldOk (flatT t) := ⟨h.ord, h.n⟩
  have hb := (hc.1 ok).1
  subst hb
  exact ⟨rfl, (loadD hc).vr⟩
/-- the sum of the first k leaves' lengths -/
theorem flatT_takeS {t : List (List Itm)} {k : Nat} (h : k < t.length) : (flatT (t.take (k + 1))).length = (flatT (t.take k)).length + t[k].length := by
  unfold flatT
  rw [List.take_succ_eq_append_getElem h, List.flatten_append, List.length_append]
  simp
/-- items inserted one by one, from position c on, seven ahead each time -/
structure GrowD (l : List Itm) (c k : Nat) (t : List (List Itm)) : Prop where
  vt : VT t
  ln : (flatT t).length ≤ k
  mem : ∀ y, y ∈ flatT t ↔ ∃ j, ∃ h : (7 * j + c) % l.length < l.length, j < k ∧ y = l[(7 * j + c) % l.length]
theorem growD_0 (l : List Itm) (c : Nat) : GrowD l c 0 [] := ⟨VT.nil, by simp [flatT], fun y => ⟨fun h => by simp [flatT] at h, fun ⟨j, h, hj, _⟩ => by omega⟩⟩
theorem growD_s {l : List Itm} {c k : Nat} {t r : List (List Itm)} {b : Bool} (h : GrowD l c k t) (ho : ordI l) (hl : l.length ≤ 30) (hk : k < l.length) (hi : (7 * k + c) % l.length < l.length) (hc : ChgOf (insOk t l[(7 * k + c) % l.length]) (insT t l[(7 * k + c) % l.length]) r b) :
    (b = true → GrowD l c (k + 1) r) ∧ (b = false → GrowD l c (k + 1) t) := by
  have key : ∀ s : List (List Itm), VT s → (flatT s).length ≤ k + 1 → (∀ y, y ∈ flatT s ↔ (y ∈ flatT t ∨ y = l[(7 * k + c) % l.length])) → GrowD l c (k + 1) s := fun s h1 h2 h3 => ⟨h1, h2, fun y => by
    rw [h3 y, h.mem y]
    constructor
    · rintro (⟨j, hj, hjk, e⟩ | e)
      · exact ⟨j, hj, by omega, e⟩
      · exact ⟨k, hi, by omega, e⟩
    · rintro ⟨j, hj, hjk, e⟩
      rcases Nat.lt_or_ge j k with q | q
      · exact .inl ⟨j, hj, q, e⟩
      · obtain rfl : j = k := by omega
        exact .inr e⟩
  constructor
  · rintro rfl
    have d := insD hc
    exact key r d.vr (by rw [d.ln]; have := h.ln; omega) (fun y => by rw [d.fl, mem_putL']; exact or_comm)
  · rintro rfl
    have hno : ¬ insOk t l[(7 * k + c) % l.length] := fun q => by have := (hc.1 q).1; cases this
    have hha : hasI (flatT t) l[(7 * k + c) % l.length] = true := by
      cases q : hasI (flatT t) l[(7 * k + c) % l.length] with
      | true => rfl
      | false => exact absurd ⟨h.vt, ordI_okT ho _ (List.getElem_mem hi), q, by have := h.ln; omega⟩ hno
    refine key t h.vt (by have := h.ln; omega) (fun y => ⟨.inl, ?_⟩)
    rintro (hy | rfl)
    · exact hy
    · exact hasI_iff.1 hha
theorem seven_onto : ∀ n, n < 31 → n % 7 ≠ 0 → ∀ c, c < n → ∀ i, i < n → ∃ j, j < n ∧ (7 * j + c) % n = i := by decide +kernel
theorem growD_end {l : List Itm} {c : Nat} {t : List (List Itm)} (h : GrowD l c l.length t) (ho : ordI l) (hl : l.length ≤ 30) (h7 : l.length % 7 ≠ 0) : flatT t = l := by
  refine srt_ext h.vt.srt (ordI_srtT ho) fun y => ?_
  rw [h.mem y]
  constructor
  · rintro ⟨j, hj, -, rfl⟩
    exact List.getElem_mem hj
  · intro hy
    obtain ⟨i, hi, rfl⟩ := List.getElem_of_mem hy
    obtain ⟨j, hj, e⟩ := seven_onto l.length (by omega) h7 (c % l.length) (Nat.mod_lt _ (by omega)) i hi
    have e' : (7 * j + c) % l.length = i := by rw [← e, Nat.add_mod_mod]
    refine ⟨j, by rw [e']; exact hi, hj, ?_⟩
    simp only [e']
end Go.Proofs.Ytmlphdniiiijpaa
