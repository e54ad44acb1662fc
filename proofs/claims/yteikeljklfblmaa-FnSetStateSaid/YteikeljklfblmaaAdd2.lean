/-
  AddEntry of the specification.
-/
import Derived.Test.YteikeljklfblmaaAdd
import Derived.Deep.AppendLies
set_option linter.all false
namespace Go.Proofs.Yteikeljklfblmaa
open Go.RowKit
section
variable {P : Program} (w : World)
/-- append onto a row of the call's own, something or nothing, as a step of a region that draws -/
theorem step_append_any {ops : Array Oper} {o : Oper} {a : Act} {K : Act → World → Prop} {Q : Exit → Act → World → Prop} {E : Prop} (hgd : o.guard = none) (s x : Operand) (t : TypeId)
    (ho : o.op = .call { callee := .builtin .append, args := #[s, x], argTypes := #[t, t] })
    (base : Nat) (e : TypeId) (i : TypeInfo) (z : Value) (size bytes : Nat) (ht : P.underlying t = some (.slice e)) (hi : P.info? e = some i) (hz : i.zero = some z)
    (hsize : i.size = size) (hby : i.bytes = bytes) (hzs : z.cells.size = size) (hsz : 0 < size)
    (v : Value) (n : Nat) (xs : List Value) (hs : a.eval s = v) (hown : w.ownsRow base e size v n xs)
    (ad : Addr) (m c : Nat) (news : List Value) (hx : a.eval x = .slice (some ad) m c) (hl : news.length = m * size) (hnews : ∀ j u, news[j]? = some u → w.cell? (ad.add j) = some u) (h1 : ∀ u ∈ news, u.oneCell' = true)
    (h63 : n + m ≤ maxLen) (hbytes : (n + m) * bytes ≤ 140737488355328) (hbase : base ≤ w.heap.size)
    (h : ∀ v' w', w'.ownsRow base e size v' (n + m) (xs ++ news) → w.grownBy w' v.ownBlock → K (a.put o.dst v') w') :
    if Region.wanted o (yielded ops a.tmps) = true then Oper.wp P o a w K Q else E := by
  have hw : Region.wanted o (yielded ops a.tmps) = true := by simp [Region.wanted, hgd]
  rw [if_pos hw]
  obtain ⟨v', w', hr, h2, h3, -, -⟩ := run_append_own_at (P := P) w base t o.type e i z size bytes ht hi hz hsize hby hzs hsz v n xs hown ad m c news hl hnews h1 h63 hbytes hbase
  unfold Oper.wp execOp
  simp only [ho, resolve, invoke, builtin, Sem.run_bind, Sem.run_pure, Result.andThen_ok, List.map_toArray, List.map_cons, List.map_nil, hs, hx, hr]
  exact h v' w' h2 h3
end
theorem own_lit_at {W : World} {b B : Nat} {e : TypeId} {size : Nat} (hb : b = W.heap.size) (hB : B ≤ W.heap.size) : (W.alloc (.cells #[] e)).ownsRow B e size (.slice (some ⟨b, 0, none⟩) 0 0) 0 [] := by
  subst hb
  exact World.ownsRow_lit W #[] 0 hB (by decide) (by simp)
theorem cell_to {B : Nat} {w w' : World} (hb : Below B w w') (hB : w.heap.size ≤ B) {ad : Addr} {xs : List Value} (h : ∀ j u, xs[j]? = some u → w.cell? (ad.add j) = some u) : ∀ j u, xs[j]? = some u → w'.cell? (ad.add j) = some u :=
  fun j u hu => (hb.cell (Nat.lt_of_lt_of_le (lt_cell (h j u hu)) hB)).trans (h j u hu)
theorem below_drew_alloc (w : World) (o : Obj) : Below w.heap.size w (w.alloc o).drew := ((Below.refl _ _).alloc (Nat.le_refl _) _).drew
theorem below_drew_alloc2 (w : World) (o o' : Obj) : Below w.heap.size w ((w.alloc o).alloc o').drew := (((Below.refl _ _).alloc (Nat.le_refl _) _).alloc (by simp) _).drew
theorem newsA {W W' : World} {e t : TypeId} {a0 a1 a2 : Value} {n c : Nat} (hg : (((W.alloc (.cells #[] e)).alloc (.cells #[a0, a1, a2] t)).drew).grownBy W' (Value.slice (some ⟨W.heap.size, 0, none⟩) n c).ownBlock) : ∀ j u, [a0, a1, a2][j]? = some u → W'.cell? ((⟨W.heap.size + 1, 0, none⟩ : Addr).add j) = some u :=
  World.news_of_block (cs := #[a0, a1, a2]) ((hg.block (W.heap.size + 1) (by simp) (by simp [Value.ownBlock])).trans (blk_drew' (blk_at (by simp) _)))
theorem newsB {W W' : World} {e t : TypeId} {a0 a1 a2 : Value} {n c : Nat} (hg : (((W.alloc (.cells #[a0, a1, a2] t)).alloc (.cells #[] e)).drew).grownBy W' (Value.slice (some ⟨W.heap.size + 1, 0, none⟩) n c).ownBlock) : ∀ j u, [a0, a1, a2][j]? = some u → W'.cell? ((⟨W.heap.size, 0, none⟩ : Addr).add j) = some u :=
  World.news_of_block (cs := #[a0, a1, a2]) ((hg.block W.heap.size (by simp; omega) (by simp [Value.ownBlock])).trans (blk_drew' (blk_keep (blk_alloc W _) _)))
set_option maxHeartbeats 8000000 in
theorem sAddEntry_any (x : Ent) (v : Value) (l : List Ent) (w : World) (h : Ents w v l) (hx : x.n.size ≤ 9223372036854775807 ∧ x.t.size ≤ 9223372036854775807) (hv : ∃ ad n c, v = .slice (some ad) n c) :
    Calls Try.prog 30 #[v, .agg #[.string x.n, .string x.t, .int .i64 x.s]] w (CatRet w (addOk l x) (addR l x)) := by
  have HZ := hide (app_sizes h.sizes hx)
  obtain ⟨ad, cap, rfl, EA⟩ : ∃ ad cap, v = .slice (some ad) l.length cap ∧ ∀ j u, (entCells l)[j]? = some u → w.cell? (ad.add j) = some u := by
    obtain ⟨ad, n, c, rfl⟩ := hv
    obtain ⟨a, cap, h0, -, -, hd⟩ := h
    cases h0
    refine ⟨ad, c, rfl, ?_⟩
    rcases hd with rfl | ⟨b, off, h1, -, hc⟩
    · intro j u hu; simp [entCells] at hu
    · cases h1; intro j u hu; rw [addr_add]; exact ents_news hc j u hu
  have HE := hide (h.keep ((Below.refl w.heap.size w).alloc (Nat.le_refl _) (.cells #[.string x.n, .string x.t, .int .i64 x.s] 27)))
  have HA := hide ((Below.refl w.heap.size w).alloc (Nat.le_refl _) (.cells #[.string x.n, .string x.t, .int .i64 x.s] 27))
  have HB := hide (blk_alloc w (.cells #[.string x.n, .string x.t, .int .i64 x.s] 27))
  have HEA := hide EA
  clear h hv EA
  obtain ⟨ok, hok⟩ : ∃ ok, addOk l x = ok := ⟨_, rfl⟩
  obtain ⟨R, hR⟩ : ∃ R, R = if ok then l ++ [x] else [] := ⟨_, rfl⟩
  rw [addR, hok, ← hR]
  have HR0 := hide hR
  clear hR
  by_cases hcat : catB l = true
  · have hlen : l.length ≤ 12 := (of_decide_eq_true hcat).1
    rw [addOk, hcat, Bool.true_and] at hok
    have HOK := hide hok
    have HC := hide hcat
    clear hok hcat
    obtain ⟨i0, hi, hz0, hz1, hz2⟩ := info_parts infoE
    go_enter Try.func30, Try.ntmps30
    go_wp2_with fail
    refine (svalidCatalog_any _ l _ HE.out).mono ?_
    rintro e w1 ⟨rfl, hb1⟩
    rw [HC.out]
    have E1 := hide (HE.out.keep hb1)
    have B1 := hide (blk_own hb1 HB.out)
    have H1 : Hid (Below w.heap.size w w1) := HA.out.trans (hb1.mono HA.out.size)
    have hw1 : w.heap.size < w1.heap.size := lt_block B1.out
    have EA1 := hide (cell_to H1.out (Nat.le_refl _) HEA.out)
    clear hb1
    obtain ⟨⟨c0, c1, c2⟩, -⟩ := cells3 B1.out
    go_upto_region 3 with fail
    go_cut [6] (fun s6 wx => ∃ g6 cap6, s6 = .slice (some ⟨g6, 0, none⟩) (l.length + 1) cap6 ∧ OwnE w.heap.size wx (.slice (some ⟨g6, 0, none⟩) (l.length + 1) cap6) (l ++ [x]) ∧ Below w.heap.size w wx)
    case first =>
      go_region_law (first
        | (refine step_append_any _ rfl (.tmp 10) (.tmp 11) 23 rfl w1.heap.size 27 i0 _ 3 40 Try.underlying23 hi hz0 hz1 hz2 rfl (by decide) (.slice (some ⟨_, 0, none⟩) 0 0) 0 [] (by rfl) (by first | exact World.ownsRow.drew (own_lit_at (by simp <;> omega) (by simp <;> omega)) | exact World.ownsRow.drew (World.ownsRow.alloc (own_lit_at (by simp <;> omega) (by simp <;> omega)) _)) ad l.length cap (entCells l) (by rfl) (entCells_len l) (by first | exact cell_to (below_drew_alloc _ _) (Nat.le_refl _) EA1.out | exact cell_to (below_drew_alloc2 _ _ _) (Nat.le_refl _) EA1.out) (entCells_one l) (by unfold maxLen; omega) (by omega) (by simp <;> omega) ?_; intro v3 w3 ho3 hg3; (first | (have HL3 := hide (newsA hg3)) | (have HL3 := hide (newsB hg3)) | skip); have HB3 : Hid (Below w1.heap.size w1 w3) := (by first | exact (below_drew_alloc _ _).grown hg3 (by simp <;> omega) (by intro q hq; simp [Value.ownBlock] at hq; omega) | exact (below_drew_alloc2 _ _ _).grown hg3 (by simp <;> omega) (by intro q hq; simp [Value.ownBlock] at hq; omega)); have HO3 : Hid (OwnE w1.heap.size w3 v3 l) := (by rw [Nat.zero_add] at ho3; exact ho3); have D3 := hide (blk_own HB3.out B1.out); obtain ⟨⟨d0, d1, d2⟩, -⟩ := cells3 D3.out; clear ho3 hg3)
        | (refine step_append_lies _ rfl (.tmp 12) (.tmp 14) 23 rfl w1.heap.size 27 i0 _ 3 40 Try.underlying23 hi hz0 hz1 hz2 rfl (by decide) _ _ _ (by rfl) (by first | exact HO3.out | exact World.ownsRow.alloc HO3.out _) ⟨_, 0, none⟩ 1 1 [.string x.n, .string x.t, .int .i64 x.s] (by rfl) (by rfl) (by first | exact HL3.out | exact World.news_of_block (cs := #[.string x.n, .string x.t, .int .i64 x.s]) (blk_at (by simp <;> omega) _)) (by intro u hu; simp at hu; rcases hu with rfl | rfl | rfl <;> rfl) (by decide) (by unfold maxLen; omega) (by omega) (by have := HB3.out.size; first | omega | (simp; omega)) _ rfl ?_; intro g4 cap4 w4 ho4 hg4 hat4 hlt4))
      all_goals
        have HN : Hid (OwnE w.heap.size w4 (.slice (some ⟨g4, 0, none⟩) (l.length + 1) cap4) (l ++ [x])) := by
          unfold OwnE Hid
          rw [entCells_app, List.length_append]
          exact own_mono ho4 (by omega)
        have HM : Hid (Below w1.heap.size w1 w4) := by first | exact HB3.out.grown hg4 HB3.out.size (fun q hq => (HO3.out.lt q hq).1) | exact (HB3.out.alloc HB3.out.size _).grown hg4 (by have := HB3.out.size; simp; omega) (fun q hq => (HO3.out.lt q hq).1)
        clear ho4 hg4 hat4
        go_wp2_with fail
        go_meet
        exact ⟨_, _, rfl, HN.out, H1.out.trans (HM.out.mono H1.out.size)⟩
    case rest =>
      obtain ⟨g6, cap6, rfl, ho6, hb6⟩ := hcut
      have HN := hide ho6
      have H6 := hide hb6
      clear ho6 hb6
      go_wp2_with fail
      refine (svalidCatalog_any _ (l ++ [x]) _ (HN.out.ents HZ.out)).mono ?_
      rintro e w7 ⟨rfl, hb7⟩
      rw [HOK.out]
      have HN7 := hide (HN.out.keep hb7)
      have H7 : Hid (Below w.heap.size w w7) := H6.out.trans (hb7.mono H6.out.size)
      clear hb7
      cases ok with
      | false =>
        go_wp2_with fail
        all_goals go_tidy
        refine ⟨rfl, .tuple #[.slice none 0 0, .bool false], by simp [results, Try.results30, go_sem], (HR0.out ▸ catRet_no H7.out)⟩
      | true =>
        go_wp2_with fail
        all_goals go_tidy
        refine ⟨rfl, .tuple #[.slice (some ⟨g6, 0, none⟩) (l.length + 1) cap6, .bool true], by simp [results, Try.results30, go_sem], ⟨_, rfl, ?_, H7.out⟩⟩
        rw [HR0.out]
        first
        | exact HN7.out
        | (rw [if_pos rfl]; exact HN7.out)
        | (rw [if_pos trivial]; exact HN7.out)
  · have hcat' : catB l = false := by simpa using hcat
    have hok' : ok = false := by rw [← hok, addOk, hcat']; rfl
    subst hok'
    clear hok
    go_enter Try.func30, Try.ntmps30
    go_wp2_with fail
    refine (svalidCatalog_any _ l _ HE.out).mono ?_
    rintro e w1 ⟨rfl, hb1⟩
    rw [hcat']
    have H1 : Hid (Below w.heap.size w w1) := HA.out.trans (hb1.mono HA.out.size)
    clear hb1
    go_wp2_with fail
    all_goals go_tidy
    refine ⟨rfl, .tuple #[.slice none 0 0, .bool false], by simp [results, Try.results30, go_sem], (HR0.out ▸ catRet_no H1.out)⟩
end Go.Proofs.Yteikeljklfblmaa
