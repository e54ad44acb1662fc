/-
  The laws' helpers at a Check: eqCheck, markCheck, heldCheck.
-/
import Derived.Test.YtppffmnokmhcoaaChk9
set_option linter.all false
namespace Go.Proofs.Ytppffmnokmhcoaa
open Go.RowKit
theorem nums_slice {w : World} {v : Value} {ns : List Int} (h : Nums w v ns) : ∃ a n c, v = .slice a n c := by
  obtain ⟨a, c, rfl, -⟩ := h
  exact ⟨_, _, _, rfl⟩
theorem row_slice {g : Nat} {w : World} {v : Value} {ns : List Int} (h : RowN g w v ns) : ∃ a n c, v = .slice a n c := nums_slice h.nums
theorem cellsA3 {w : World} {b : Nat} {t : TypeId} {a0 a1 a2 : Value} (h : w.heap[b]? = some (.cells #[a0, a1, a2] t (0, 0))) :
    w.cell? ⟨b, 0, none⟩ = some a0 ∧ w.cell? ⟨b, 1, none⟩ = some a1 ∧ w.cell? ⟨b, 2, none⟩ = some a2 := by
  simp [World.cell?, h]
set_option maxHeartbeats 4000000 in
theorem eqCheck_same (d f a d' f' a' : Value) (ds fs ac : List Int) (w : World) (h1 : Nums w d ds) (h2 : Nums w f fs) (h3 : Nums w a ac) (k1 : Nums w d' ds) (k2 : Nums w f' fs) (k3 : Nums w a' ac) :
    Calls Try.prog 11 #[.agg #[d, f, a], .agg #[d', f', a']] w fun x w' => x = .returned (.bool true) ∧ Below w.heap.size w w' := by
  obtain ⟨xa, xn, xc, rfl⟩ := nums_slice h1
  obtain ⟨ya, yn, yc, rfl⟩ := nums_slice h2
  obtain ⟨za, zn, zc, rfl⟩ := nums_slice h3
  obtain ⟨pa, pn, pc, rfl⟩ := nums_slice k1
  obtain ⟨qa, qn, qc, rfl⟩ := nums_slice k2
  obtain ⟨ra, rn, rc, rfl⟩ := nums_slice k3
  have H1 := hide h1
  have H2 := hide h2
  have H3 := hide h3
  have K1 := hide k1
  have K2 := hide k2
  have K3 := hide k3
  clear h1 h2 h3 k1 k2 k3
  have B0 := hide ((Below.refl w.heap.size w).alloc (Nat.le_refl _) (.cells #[.slice xa xn xc, .slice ya yn yc, .slice za zn zc] 28))
  have B1 := hide (B0.out.alloc (by simp) (.cells #[.slice pa pn pc, .slice qa qn qc, .slice ra rn rc] 28))
  have X0 := hide (blk_keep (blk_alloc w (.cells #[.slice xa xn xc, .slice ya yn yc, .slice za zn zc] 28)) (.cells #[.slice pa pn pc, .slice qa qn qc, .slice ra rn rc] 28))
  have X1 := hide (blk_at (W := w.alloc (.cells #[.slice xa xn xc, .slice ya yn yc, .slice za zn zc] 28)) (b := w.heap.size + 1) (by simp) (.cells #[.slice pa pn pc, .slice qa qn qc, .slice ra rn rc] 28))
  go_enter Try.func11, Try.ntmps11
  go_wp2_with fail
  refine (eqIntS_same _ _ ds _ (H1.out.keep B1.out) (K1.out.keep B1.out)).mono ?_
  rintro e1 w1 ⟨rfl, hb⟩
  have W1 : Hid (Below w.heap.size w w1) := B1.out.trans (hb.mono B1.out.size)
  have Y0 := hide (blk_own hb X0.out)
  have Y1 := hide (blk_own hb X1.out)
  obtain ⟨c0, c1, c2⟩ := cellsA3 Y0.out
  obtain ⟨e0, e1, e2⟩ := cellsA3 Y1.out
  clear hb
  go_wp2_with fail
  refine (eqIntS_same _ _ fs _ (H2.out.keep W1.out) (K2.out.keep W1.out)).mono ?_
  rintro e1 w2 ⟨rfl, hb⟩
  have W2 : Hid (Below w.heap.size w w2) := W1.out.trans (hb.mono W1.out.size)
  have Y0 := hide (blk_own hb Y0.out)
  have Y1 := hide (blk_own hb Y1.out)
  clear hb c0 c1 c2 e0 e1 e2
  obtain ⟨c0, c1, c2⟩ := cellsA3 Y0.out
  obtain ⟨e0, e1, e2⟩ := cellsA3 Y1.out
  go_wp2_with fail
  refine (eqIntS_same _ _ ac _ (H3.out.keep W2.out) (K3.out.keep W2.out)).mono ?_
  rintro e1 w3 ⟨rfl, hb⟩
  have W3 : Hid (Below w.heap.size w w3) := W2.out.trans (hb.mono W2.out.size)
  clear hb c0 c1 c2 e0 e1 e2
  go_wp2_with fail
  go_ret
  exact ⟨rfl, W3.out⟩
/-- what marking a Check leaves: three rows of marks in three blocks -/
def MarkCRet (w : World) (m g1 g2 g3 n1 n2 n3 : Nat) (d f a : Value) (e : Ending) (w' : World) : Prop :=
  e = .returned (.int .i64 ((m + n1 + n2 + n3 : Nat) : Int)) ∧ RowN g1 w' d (markN m n1) ∧ RowN g2 w' f (markN (m + n1) n2) ∧ RowN g3 w' a (markN (m + n1 + n2) n3) ∧
    ∃ wa wb wc, Below w.heap.size w wa ∧ wa.grownBy wb (some g1) ∧ wb.grownBy wc (some g2) ∧ wc.grownBy w' (some g3)
theorem markN_ne {m n : Nat} {l : List Int} (h : markN m n ≠ []) (hl : n = l.length) : l ≠ [] := by
  intro e; subst e; subst hl; exact h (by simp [markN])
set_option maxHeartbeats 4000000 in
theorem markCheck_any (g1 g2 g3 m : Nat) (d f a : Value) (ds fs ac : List Int) (w : World) (h1 : RowN g1 w d ds) (h2 : RowN g2 w f fs) (h3 : RowN g3 w a ac) (n12 : g1 ≠ g2) (n13 : g1 ≠ g3) (n23 : g2 ≠ g3) (hg1 : g1 ≠ w.heap.size) (hg2 : g2 ≠ w.heap.size) (hg3 : g3 ≠ w.heap.size)
    (h0 : 1 ≤ m) (hm : m + ds.length + fs.length + ac.length ≤ 9000000) :
    Calls Try.prog 16 #[.agg #[d, f, a], .int .i64 (m : Int)] w (MarkCRet w m g1 g2 g3 ds.length fs.length ac.length d f a) := by
  obtain ⟨xa, xn, xc, rfl⟩ := row_slice h1
  obtain ⟨ya, yn, yc, rfl⟩ := row_slice h2
  obtain ⟨za, zn, zc, rfl⟩ := row_slice h3
  have B0 := hide ((Below.refl w.heap.size w).alloc (Nat.le_refl _) (.cells #[.slice xa xn xc, .slice ya yn yc, .slice za zn zc] 28))
  have X0 := hide (blk_alloc w (.cells #[.slice xa xn xc, .slice ya yn yc, .slice za zn zc] 28))
  have R1 := hide (h1.keep B0.out)
  have R2 := hide (h2.keep B0.out)
  have R3 := hide (h3.keep B0.out)
  clear h1 h2 h3
  go_enter Try.func16, Try.ntmps16
  go_wp2_with fail
  refine (markIntS_any g1 m _ ds _ R1.out h0 (by omega)).mono ?_
  rintro e1 w1 ⟨rfl, hg, hr⟩
  have G1 := hide hg
  have M1 := hide hr
  have R2 := hide (R2.out.kept hg (fun _ e => n12 e.symm))
  have R3 := hide (R3.out.kept hg (fun _ e => n13 e.symm))
  have X1 : Hid (w1.heap[w.heap.size]? = some (.cells #[.slice xa xn xc, .slice ya yn yc, .slice za zn zc] 28 (0, 0))) := (hg.block _ (by simp) (fun e => hg1 (by injection e with e; exact e.symm))).trans X0.out
  obtain ⟨c0, c1, c2⟩ := cellsA3 X1.out
  obtain ⟨p, hp⟩ : ∃ p, m + ds.length = p := ⟨_, rfl⟩
  rw [hp]
  have HP := hide hp
  have hp1 : 1 ≤ p := by omega
  have hp2 : p + fs.length + ac.length ≤ 9000000 := by omega
  clear hg hr R1 hp
  go_wp2_with fail
  refine (markIntS_any g2 p _ fs _ R2.out hp1 (by omega)).mono ?_
  rintro e1 w2 ⟨rfl, hg, hr⟩
  have G2 := hide hg
  have M2 := hide hr
  have M1 := hide (M1.out.kept hg (fun _ e => n12 e))
  have R3 := hide (R3.out.kept hg (fun _ e => n23 e.symm))
  have X2 : Hid (w2.heap[w.heap.size]? = some (.cells #[.slice xa xn xc, .slice ya yn yc, .slice za zn zc] 28 (0, 0))) := (hg.block _ (lt_block X1.out) (fun e => hg2 (by injection e with e; exact e.symm))).trans X1.out
  obtain ⟨q, hq⟩ : ∃ q, p + fs.length = q := ⟨_, rfl⟩
  rw [hq]
  have HQ := hide hq
  have hq1 : 1 ≤ q := by omega
  have hq2 : q + ac.length ≤ 9000000 := by omega
  clear hg hr R2 c0 c1 c2 hq
  obtain ⟨c0, c1, c2⟩ := cellsA3 X2.out
  go_wp2_with fail
  refine (markIntS_any g3 q _ ac _ R3.out hq1 hq2).mono ?_
  rintro e1 w3 ⟨rfl, hg, hr⟩
  have G3 := hide hg
  have M3 := hide hr
  have M1 := hide (M1.out.kept hg (fun _ e => n13 e))
  have M2 := hide (M2.out.kept hg (fun _ e => n23 e))
  clear hg hr R3 c0 c1 c2
  go_wp2_with fail
  go_ret
  have hp := HP.out
  have hq := HQ.out
  subst hp
  subst hq
  exact ⟨rfl, M1.out, M2.out, M3.out, _, _, _, B0.out, G1.out, G2.out, G3.out⟩
set_option maxHeartbeats 4000000 in
theorem heldCheck_any (g1 g2 g3 m n1 n2 n3 : Nat) (d f a : Value) (w : World) (h1 : RowN g1 w d (markN m n1)) (h2 : RowN g2 w f (markN (m + n1) n2)) (h3 : RowN g3 w a (markN (m + n1 + n2) n3))
    (h0 : 1 ≤ m) (hm : m + n1 + n2 + n3 ≤ 9000000) :
    Calls Try.prog 17 #[.agg #[d, f, a], .int .i64 (m : Int)] w fun e w' => e = .returned (.int .i64 ((m + n1 + n2 + n3 : Nat) : Int)) ∧ Below w.heap.size w w' := by
  obtain ⟨xa, xn, xc, rfl⟩ := row_slice h1
  obtain ⟨ya, yn, yc, rfl⟩ := row_slice h2
  obtain ⟨za, zn, zc, rfl⟩ := row_slice h3
  have B0 := hide ((Below.refl w.heap.size w).alloc (Nat.le_refl _) (.cells #[.slice xa xn xc, .slice ya yn yc, .slice za zn zc] 28))
  have X0 := hide (blk_alloc w (.cells #[.slice xa xn xc, .slice ya yn yc, .slice za zn zc] 28))
  have R1 := hide (h1.keep B0.out)
  have R2 := hide (h2.keep B0.out)
  have R3 := hide (h3.keep B0.out)
  clear h1 h2 h3
  go_enter Try.func17, Try.ntmps17
  go_wp2_with fail
  refine (heldIntS_any g1 n1 m _ _ R1.out h0 (by omega)).mono ?_
  rintro e1 w1 ⟨rfl, hb⟩
  have W1 : Hid (Below w.heap.size w w1) := B0.out.trans (hb.mono (by simp))
  have R2 := hide (R2.out.keep hb)
  have R3 := hide (R3.out.keep hb)
  have X1 := hide (blk_own hb X0.out)
  obtain ⟨c0, c1, c2⟩ := cellsA3 X1.out
  obtain ⟨p, hp⟩ : ∃ p, m + n1 = p := ⟨_, rfl⟩
  rw [hp] at R2 R3 hm ⊢
  have HP := hide hp
  have hp1 : 1 ≤ p := by omega
  clear hb R1 hp
  go_wp2_with fail
  refine (heldIntS_any g2 n2 p _ _ R2.out hp1 (by omega)).mono ?_
  rintro e1 w2 ⟨rfl, hb⟩
  have W2 : Hid (Below w.heap.size w w2) := W1.out.trans (hb.mono W1.out.size)
  have R3 := hide (R3.out.keep hb)
  have X2 := hide (blk_own hb X1.out)
  obtain ⟨q, hq⟩ : ∃ q, p + n2 = q := ⟨_, rfl⟩
  rw [hq] at R3 hm ⊢
  have HQ := hide hq
  have hq1 : 1 ≤ q := by omega
  clear hb R2 c0 c1 c2 hq
  obtain ⟨c0, c1, c2⟩ := cellsA3 X2.out
  go_wp2_with fail
  refine (heldIntS_any g3 n3 q _ _ R3.out hq1 hm).mono ?_
  rintro e1 w3 ⟨rfl, hb⟩
  have W3 : Hid (Below w.heap.size w w3) := W2.out.trans (hb.mono W2.out.size)
  obtain ⟨z, hz⟩ : ∃ z, q + n3 = z := ⟨_, rfl⟩
  rw [hz] at hm ⊢
  have HZ := hide hz
  clear hb R3 c0 c1 c2 hz
  go_wp2_with fail
  go_ret
  exact ⟨by rw [HP.out, HQ.out, HZ.out]; rfl, W3.out⟩
end Go.Proofs.Ytppffmnokmhcoaa
