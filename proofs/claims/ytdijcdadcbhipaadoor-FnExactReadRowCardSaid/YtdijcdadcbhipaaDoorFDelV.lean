/-
  slices.Delete of one element, at Value.
-/
import Derived.Test.YtdijcdadcbhipaaDoorFWid
import Derived.Test.YtdijcdadcbhipaaDoorOwn
set_option linter.all false
namespace Go.Proofs.YtdijcdadcbhipaaDoor
open Go.RowKit
theorem infoDelValue : (Tryd.prog.info? 25).map (fun i => (i.zero, i.size, i.bytes)) = some (some (.agg #[.int .i64 0, .int .i64 0, .string ⟨#[]⟩]), 3, 32) := by kernel_rfl
theorem zeroRVal (w : World) : (zeroValue 25).run Tryd.prog w = .ok (.agg #[.int .i64 0, .int .i64 0, .string ⟨#[]⟩]) w := by
  obtain ⟨i0, hi, hz0, -, -⟩ := info_parts infoDelValue
  simp [zeroValue, typeInfo, hi, hz0]
set_option maxHeartbeats 8000000 in
set_option maxRecDepth 100000 in
theorem delValue_any (B g m i cap : Nat) (xs : List Value) (w : World) (h : w.ownsRow B 25 3 (.slice (some ⟨g, 0, none⟩) (i + 1 + m) cap) (i + 1 + m) xs) (hone : ∀ v ∈ xs, v.oneCell' = true) :
    Calls Tryd.prog 71 #[.slice (some ⟨g, 0, none⟩) (i + 1 + m) cap, .int .i64 (i : Int), .int .i64 ((i + 1 : Nat) : Int)] w fun e w' =>
      e = .returned (.slice (some ⟨g, 0, none⟩) (i + m) cap) ∧ w'.ownsRow B 25 3 (.slice (some ⟨g, 0, none⟩) (i + m) cap) (i + m) (xs.take (i * 3) ++ xs.drop ((i + 1) * 3)) ∧ w.grownBy w' (some g) := by
  obtain ⟨i0, hi0, -, hz1, -⟩ := info_parts infoDelValue
  obtain ⟨cur, hcur, hcs, hcm, hnc, hB, hxl, hx⟩ := own_at h
  have hm63 : cap ≤ 9223372036854775807 := hcm
  obtain ⟨news, hnews⟩ : ∃ news, news = xs.drop ((i + 1) * 3) := ⟨_, rfl⟩
  have hlen : news.length = m * 3 := by rw [hnews, List.length_drop]; omega
  have hget : ∀ t, t < m * 3 → news[t]? = xs[(i + 1) * 3 + t]? := fun t ht => by rw [hnews, List.getElem?_drop]
  have hw : ∀ j, j < xs.length → w.drew.cell? ⟨g, j, none⟩ = xs[j]? := fun j hj => (cell_block hcur j).trans (hx j hj)
  obtain ⟨A, hA, hsrc⟩ : ∃ A : Addr, (if cap = i + 1 then some (⟨g, 0, none⟩ : Addr) else some ⟨g, (i + 1) * 3, none⟩) = some A ∧ Hid (∀ t u, news[t]? = some u → w.drew.cell? (A.add t) = some u) := by
    by_cases hc : cap = i + 1
    · refine ⟨⟨g, 0, none⟩, by simp [hc], fun t u hu => ?_⟩
      have h0 : news.length = 0 := by rw [hlen]; omega
      rw [List.length_eq_zero_iff.1 h0] at hu
      simp at hu
    · refine ⟨⟨g, (i + 1) * 3, none⟩, by simp [hc], fun t u hu => ?_⟩
      have ht : t < m * 3 := by
        have := (List.getElem?_eq_some_iff.1 hu).1
        rwa [hlen] at this
      rw [hget t ht] at hu
      rw [Addr.add_lit, hw _ (by omega)]
      exact hu
  have s2 : Hid (∀ u ∈ news, u.oneCell' = true) := fun u hu => hone u (by rw [hnews] at hu; exact List.mem_of_mem_drop hu)
  have s1 : Hid (news.length = m * 3) := hlen
  have s3 : Hid (∀ t, t < news.length → (w.drew.cell? ⟨g, 0 + i * 3 + t, none⟩).isSome = true ∧ w.drew.frozen? ⟨g, 0 + i * 3 + t, none⟩ = false) := by
    intro t ht
    rw [hlen] at ht
    refine ⟨?_, froz_block (w := w.drew) hcur _⟩
    rw [hw _ (by omega), List.getElem?_eq_getElem (by omega)]
    rfl
  obtain ⟨W1, hW1⟩ : ∃ W1, W1 = w.drew.setCells g (0 + i * 3) news := ⟨_, rfl⟩
  have hcur1 : W1.heap[g]? = some (.cells (putC cur (0 + i * 3) news) 25 (0, 0)) := by rw [hW1]; exact heap_setCells news _ (w := w.drew) hcur
  have hg1 : w.grownBy W1 (some g) := by rw [hW1]; exact grown_setCells g news _ (grown_below (Below.refl _ _).drew _)
  have hcl : ∀ ty, (Builtin.clear_ #[56] ty #[.slice (some ⟨g, (i + m) * 3, none⟩) (i + 1 + m - (i + m)) (cap - (i + m))]).run Tryd.prog W1 = .ok (.tuple #[]) (W1.setCells g ((i + m) * 3) [.int .i64 0, .int .i64 0, .string ⟨#[]⟩]) :=
    fun ty => by
     rw [show i + 1 + m - (i + m) = 1 by omega]
     exact run_clear_one W1 _ _ ty (.agg #[.int .i64 0, .int .i64 0, .string ⟨#[]⟩]) Tryd.underlying56 zeroRVal (by intro v hv; simp [Value.cells] at hv; (try rcases hv with rfl | rfl | rfl); all_goals (try subst hv); all_goals rfl) g _ _
      (fun j hj => by
        rw [cell_block hcur1, Array.getElem?_eq_getElem (by rw [putC_size]; simp [Value.cells] at hj; omega)]; rfl)
      (fun j hj => froz_block hcur1 _)
  have hcur2 := heap_setCells [.int .i64 0, .int .i64 0, .string ⟨#[]⟩] ((i + m) * 3) hcur1
  have FIN : Hid ((W1.setCells g ((i + m) * 3) [.int .i64 0, .int .i64 0, .string ⟨#[]⟩]).ownsRow B 25 3 (.slice (some ⟨g, 0, none⟩) (i + m) cap) (i + m) (xs.take (i * 3) ++ xs.drop ((i + 1) * 3))) := by
    refine own_of hB hcur2 (by rw [putC_size, putC_size]; exact hcs) hcm (by omega) (by rw [List.length_append, List.length_take, List.length_drop]; omega) fun j hj => ?_
    rw [List.length_append, List.length_take, List.length_drop] at hj
    rw [putC_out _ _ _ _ (by omega)]
    by_cases hji : j < i * 3
    · rw [putC_out _ _ _ _ (by omega), hx j (by omega), List.getElem?_append_left (by rw [List.length_take]; omega), List.getElem?_take, if_pos hji]
    · rw [putC_at (by rw [hlen]; omega) (by omega) (by rw [hlen]; omega), List.getElem?_append_right (by rw [List.length_take]; omega), List.length_take, ← hnews]
      congr 1
      omega
  have FG : Hid (w.grownBy (W1.setCells g ((i + m) * 3) [.int .i64 0, .int .i64 0, .string ⟨#[]⟩]) (some g)) := grown_setCells g _ _ hg1
  have hW : Hid (W1 = w.drew.setCells g (0 + i * 3) news) := hW1
  have hic : i ≤ cap := by omega
  have hjc : i + 1 ≤ cap := by omega
  have b1 : (0 : Int) ≤ (i : Int) + 1 := by omega
  have b2 : (i : Int) + 1 ≤ (i : Int) + 1 + (m : Int) := by omega
  clear hW1 hcur1 hcur2 hg1 hone hw hget hlen hnews hx hxl hcur hcs hcm h
  go_enter Tryd.func71, Tryd.ntmps71
  go_wp2_with fail
  go_region_law (refine step_append_room rfl (.tmp 22) (.tmp 25) 56 rfl 25 i0 3 Tryd.underlying56 hi0 hz1 g 0 i cap (by simp [Act.eval, Act.put]) A m (cap - (i + 1)) news (by simp [Act.eval, Act.put]) s1.out hsrc.out s2.out (by omega) s3.out ?_; rw [← hW.out])
  go_wp2_with fail
  go_ret
  exact ⟨rfl, FIN.out, FG.out⟩
end Go.Proofs.YtdijcdadcbhipaaDoor
