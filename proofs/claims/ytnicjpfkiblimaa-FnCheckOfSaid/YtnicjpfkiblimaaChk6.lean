/-
  copyInts and sorted of the specification.
-/
import Derived.Test.YtnicjpfkiblimaaChk2
set_option linter.all false
namespace Go.Proofs.Ytnicjpfkiblimaa
open Go.RowKit
theorem OwnN.stored {B g n cap : Nat} {w : World} {ns : List Int} (h : OwnN B w (.slice (some ⟨g, 0, none⟩) n cap) ns) (j : Nat) (x : Int) : OwnN B (w.setCell ⟨g, j, none⟩ (.int .i64 x)) (.slice (some ⟨g, 0, none⟩) n cap) (ns.set j x) := by
  have hn : n = ns.length := by
    rcases h.2 with ⟨h, _⟩ | ⟨g', cap', cur, h, _⟩
    · cases h
    · injection h
  subst hn
  unfold OwnN at h ⊢
  rw [List.length_set, List.map_set]
  exact (World.ownsRow.stored h j _).1
theorem OwnN.at {B g n cap : Nat} {w : World} {ns : List Int} (h : OwnN B w (.slice (some ⟨g, 0, none⟩) n cap) ns) {j : Nat} (hj : j < ns.length) : w.cell? ⟨g, j, none⟩ = some (.int .i64 ns[j]) := by
  have hn : n = ns.length := by
    rcases h.2 with ⟨h, _⟩ | ⟨g', cap', cur, h, _⟩
    · cases h
    · injection h
  subst hn
  rw [World.ownsRow.cellAt h j (by omega)]
  simp [hj]
theorem OwnN.froz {B g n cap : Nat} {w : World} {ns : List Int} (h : OwnN B w (.slice (some ⟨g, 0, none⟩) n cap) ns) (j : Nat) : w.frozen? ⟨g, j, none⟩ = false := by
  have hn : n = ns.length := by
    rcases h.2 with ⟨h, _⟩ | ⟨g', cap', cur, h, _⟩
    · cases h
    · injection h
  subst hn
  exact World.ownsRow.frozenAt h j
set_option maxHeartbeats 2000000 in
theorem copyInts_any (B : Nat) (v : Value) (ns : List Int) (w : World) (h : OwnN B w v ns) (hn : ns.length ≤ 1048576) :
    Calls Try.prog 29 #[v] w fun e w' => ∃ g cap, e = .returned (.slice (some ⟨g, 0, none⟩) ns.length cap) ∧ OwnN w.heap.size w' (.slice (some ⟨g, 0, none⟩) ns.length cap) ns ∧ Below w.heap.size w w' := by
  obtain ⟨i0, hi, hz0, hz1, hz2⟩ := info_parts infoN
  by_cases h0 : ns = []
  · subst h0
    obtain ⟨ao, c, rfl, hao⟩ : ∃ ao c, v = .slice ao 0 c ∧ (ao = none → 0 = 0 ∧ c = 0) := by
      rcases h.2 with ⟨rfl, _⟩ | ⟨g, cap, cur, rfl, _⟩
      · exact ⟨none, 0, rfl, fun _ => ⟨rfl, rfl⟩⟩
      · exact ⟨_, cap, rfl, fun h => by cases h⟩
    go_enter Try.func29, Try.ntmps29
    go_wp2_with (at_builtin; refine wpList_append_fits_any _ rfl (.tmp 3) (.tmp 4) 27 rfl w.heap.size 3 i0 1 Try.underlying27 hi hz1 w.heap.size 0 0 [] rfl (World.ownsRow_made w #[] 0 (Nat.le_refl _) (by unfold maxLen; omega) (by simp)) ao 0 c [] rfl rfl hao (fun _ _ j u hu => by simp at hu) (fun u hu => by simp at hu) (Nat.le_refl _) ?next)
    case next =>
      intro w3 hown hgrow
      have W3 : Hid (Below w.heap.size w w3) := ((Below.refl _ _).alloc (Nat.le_refl _) _ : Below w.heap.size w _).grown hgrow (by simp) (fun q hq => by injection hq with hq; omega)
      have HO := hide hown
      clear hown hgrow
      go_wp2_with fail
      go_ret
      exact ⟨_, _, rfl, HO.out, W3.out⟩
  · obtain ⟨b, cap, rfl, hbb, hcap, hcell⟩ : ∃ b cap, v = .slice (some ⟨b, 0, none⟩) ns.length cap ∧ b < w.heap.size ∧ ns.length ≤ cap ∧ ∀ i (h : i < ns.length), w.cell? ⟨b, 0 + i, none⟩ = some (.int .i64 ns[i]) := by
      obtain ⟨g, -, hlt, a, cap, rfl, h1, h2, h3⟩ := OwnN.row h
      obtain ⟨rfl, cs, hb, hs, hc⟩ := h3.resolve_left h0
      exact ⟨g, cap, rfl, hlt h0, h1, fun i hi => by rw [cell_block hb, Nat.zero_add]; exact hc i hi⟩
    have hpos : 0 < ns.length := List.length_pos_iff.2 h0
    have HC := hide hcell
    clear hcell
    go_enter Try.func29, Try.ntmps29
    go_wp2_with (at_builtin; refine wpList_append_lies _ rfl (.tmp 3) (.tmp 4) 27 rfl w.heap.size 3 i0 _ 1 8 Try.underlying27 hi hz0 hz1 hz2 rfl (by decide) _ _ _ rfl (World.ownsRow_made w #[] 0 (Nat.le_refl _) (by unfold maxLen; omega) (by simp)) ⟨b, 0, none⟩ ns.length cap (ns.map (Value.int .i64)) rfl (by simp) ?c1 ?h1 hpos ?h63 ?hb ?hbase _ rfl ?next)
    case c1 =>
      intro j u hu
      rw [List.getElem?_map] at hu
      by_cases hj : j < ns.length
      · rw [List.getElem?_eq_getElem hj] at hu
        simp at hu; subst hu
        rw [Addr.add_lit]
        exact (((Below.refl _ _).alloc (Nat.le_refl _) _ : Below w.heap.size w _).cell (p := ⟨b, 0 + j, none⟩) hbb).trans (HC.out j hj)
      · rw [List.getElem?_eq_none (by omega)] at hu; simp at hu
    case h1 =>
      intro u hu
      rw [List.mem_map] at hu
      obtain ⟨x, -, rfl⟩ := hu
      rfl
    case h63 => unfold maxLen; omega
    case hb => omega
    case hbase => simp
    case next =>
      intro g cp w3 hown hgrow hat hlt3
      have W3 : Hid (Below w.heap.size w w3) := ((Below.refl _ _).alloc (Nat.le_refl _) _ : Below w.heap.size w _).grown hgrow (by simp) (fun q hq => by simp [Value.ownBlock] at hq; omega)
      have HO := hide hown
      clear hown hgrow hat
      go_wp2_with fail
      go_ret
      refine ⟨g, cp, rfl, HO.out, W3.out⟩
/-- the inner loop of the insertion sort has its element at k -/
def PreS (i k : Nat) (xs : List Int) : Prop := ∀ a b (ha : a < xs.length) (hb : b < xs.length), a < b → b ≤ i → b ≠ k → xs[a] ≤ xs[b]
def SorS (i : Nat) (xs : List Int) : Prop := ∀ a b (ha : a < xs.length) (hb : b < xs.length), a < b → b < i → xs[a] ≤ xs[b]
theorem PreS.swap {i k : Nat} {xs : List Int} (h : PreS i (k + 1) xs) (hi : i < xs.length) (hk : k + 1 ≤ i) (hlt : xs[k + 1] < xs[k]) : PreS i k ((xs.set (k + 1) xs[k]).set k xs[k + 1]) := by
  intro a b ha hb hab hbi hbk
  simp only [List.length_set] at ha hb
  have e1 : ∀ x (hx : x < xs.length), x < k → xs[x] ≤ xs[k] := fun x hx hxk => h x k hx (by omega) hxk (by omega) (by omega)
  have e2 : ∀ x (hx : x < xs.length), k + 1 < x → x ≤ i → xs[k + 1] ≤ xs[x] ∧ xs[k] ≤ xs[x] := fun x hx hxk hxi => ⟨h (k + 1) x (by omega) hx hxk hxi (by omega), h k x (by omega) hx (by omega) hxi (by omega)⟩
  simp only [List.getElem_set]
  by_cases hb1 : b = k + 1
  · subst hb1
    by_cases ha1 : k = a
    · subst ha1; simp; omega
    · have := e1 a ha (by omega)
      rw [if_neg ha1, if_neg (by omega), if_neg (by omega), if_pos rfl]
      exact this
  · rw [if_neg (by omega : ¬ k = b), if_neg (by omega : ¬ k + 1 = b)]
    by_cases ha1 : k = a
    · subst ha1; rw [if_pos rfl]; exact (e2 b hb (by omega) hbi).1
    · rw [if_neg ha1]
      by_cases ha2 : k + 1 = a
      · subst ha2; rw [if_pos rfl]; exact (e2 b hb (by omega) hbi).2
      · rw [if_neg ha2]; exact h a b ha hb hab hbi (by omega)
theorem PreS.done {i k : Nat} {xs : List Int} (h : PreS i k xs) (hi : i < xs.length) (hk : k ≤ i) (hle : ∀ j (hj : j + 1 = k), xs[j] ≤ xs[k]) : SorS (i + 1) xs := by
  intro a b ha hb hab hbi
  by_cases hbk : b = k
  · subst hbk
    obtain ⟨j, rfl⟩ : ∃ j, b = j + 1 := ⟨b - 1, by omega⟩
    have h1 := hle j rfl
    by_cases haj : a = j
    · subst haj; exact h1
    · exact Int.le_trans (h a j ha (by omega) (by omega) (by omega) (by omega)) h1
  · exact h a b ha hb hab (by omega) hbk
theorem SorS.pre {i : Nat} {xs : List Int} (h : SorS i xs) : PreS i i xs := fun a b ha hb hab hbi hbk => h a b ha hb hab (by omega)
theorem SorS.pairwise {i : Nat} {xs : List Int} (h : SorS i xs) (hi : xs.length ≤ i) : xs.Pairwise (fun a b => a ≤ b) :=
  List.pairwise_iff_getElem.2 fun a b ha hb hab => h a b ha hb hab (by omega)
theorem swap_perm {xs ns : List Int} {k : Nat} (h : xs.Perm ns) (hk : k + 1 < xs.length) : ((xs.set (k + 1) xs[k]).set k xs[k + 1]).Perm ns :=
  (List.set_set_perm hk (by omega)).trans h
set_option maxHeartbeats 8000000 in
theorem sorted_any (B : Nat) (v : Value) (ns : List Int) (w : World) (h : OwnN B w v ns) (hn : ns.length ≤ 1048576) :
    Calls Try.prog 17 #[v] w fun e w' => ∃ v' r, e = .returned v' ∧ OwnN w.heap.size w' v' r ∧ r.Perm ns ∧ r.Pairwise (fun a b => a ≤ b) ∧ Below w.heap.size w w' := by
  have CP := hide (copyInts_any B v ns w h hn)
  clear h
  go_enter Try.func17, Try.ntmps17
  go_wp2_with fail
  refine CP.out.mono ?_
  rintro e w1 ⟨g, cap, rfl, ho1, hb1⟩
  have H1 := hide hb1
  have O1 := hide ho1
  have hg0 := (World.ownsRow.lt ho1 g rfl)
  clear ho1 hb1 CP
  go_wp2_with fail
  go_loopg [4] ns.length (fun gk s4 wr => Below w.heap.size w wr ∧ ∃ (i : Nat) (xs : List Int), i + gk = ns.length + 1 ∧ s4 = .int .i64 (i : Int) ∧ 1 ≤ i ∧ xs.length = ns.length ∧ OwnN w.heap.size wr (.slice (some ⟨g, 0, none⟩) ns.length cap) xs ∧ xs.Perm ns ∧ SorS i xs)
  case atStart => exact ⟨H1.out, 1, ns, by omega, rfl, Nat.le_refl _, rfl, O1.out, List.Perm.refl _, fun a b ha hb hab hb1 => by omega⟩
  case round =>
    obtain ⟨hbw, i, xs, hk, rfl, hi1, hxl, ho, hp, hs⟩ := hrel
    have HW := hide hbw
    have HO := hide ho
    have HP := hide hp
    have HS := hide hs
    clear hbw ho hp hs O1
    by_cases hlt : i < ns.length
    · go_wp2_with fail
      obtain ⟨G, hG⟩ : ∃ G, G = gk := ⟨_, rfl⟩
      go_loopg [5] i (fun gk s5 wq => Below w.heap.size w wq ∧ ∃ (ys : List Int), gk ≤ i ∧ s5 = .int .i64 (gk : Int) ∧ ys.length = ns.length ∧ OwnN w.heap.size wq (.slice (some ⟨g, 0, none⟩) ns.length cap) ys ∧ ys.Perm ns ∧ PreS i gk ys)
      case atStart => exact ⟨HW.out, xs, Nat.le_refl _, rfl, hxl, HO.out, HP.out, HS.out.pre⟩
      case round =>
        clear HW HO HP HS hxl
        obtain ⟨hbw, ys, hki, rfl, hyl, ho, hp, hs⟩ := hrel
        have HW := hide hbw
        have HO := hide ho
        have HP := hide hp
        have HS := hide hs
        clear hbw ho hp hs
        by_cases hk0 : gk = 0
        · subst hk0
          have HD : Hid (SorS (i + 1) ys) := HS.out.done (by omega) hki (fun j hj => by omega)
          go_wp2_with fail
          go_quiet (fail)
          go_wp2_with fail
          go_roundg (G - 1)
          case measure => omega
          case rel => exact ⟨below_drewN HW.out _, i + 1, ys, by omega, by go_num, by omega, hyl, World.ownsRow.drew HO.out, HP.out, HD.out⟩
        · obtain ⟨k, rfl⟩ : ∃ k, gk = k + 1 := ⟨gk - 1, by omega⟩
          have c0 := HO.out.at (j := k) (by omega)
          have c1 := HO.out.at (j := k + 1) (by omega)
          have f0 := HO.out.froz k
          have f1 := HO.out.froz (k + 1)
          have HSW := hide (fun (h : ys[k + 1] < ys[k]) => HS.out.swap (show i < ys.length by omega) hki h)
          have HDN := hide (fun (h : ys[k] ≤ ys[k + 1]) => HS.out.done (i := i) (by omega) hki (fun j hj => by cases hj; exact h))
          have HPM := hide (swap_perm HP.out (k := k) (by omega))
          have HST := hide (fun W (hW : OwnN w.heap.size W (.slice (some ⟨g, 0, none⟩) ns.length cap) ys) => (hW.stored (k + 1) ys[k]).stored k ys[k + 1])
          generalize hx : ys[k + 1] = x at *
          generalize hy : ys[k] = y at *
          clear hx hy
          have hxl : ((ys.set (k + 1) y).set k x).length = ns.length := by simp [hyl]
          by_cases hq : x < y
          · have dq : decide (x < y) = true := decide_eq_true hq
            have HQ := hide hq
            clear hq
            go_wp2_with fail
            go_quiet (fail)
            go_wp2_with fail
            go_roundg k
            case measure => omega
            case rel => exact ⟨((below_drewN HW.out _).setCell (by simp; exact hg0.1) _).setCell (by simp; exact hg0.1) _, _, by omega, rfl, hxl, HST.out _ (World.ownsRow.drew HO.out), HPM.out, HSW.out HQ.out⟩
          · have dq : decide (x < y) = false := decide_eq_false hq
            have HQ := hide (Int.not_lt.1 hq)
            clear hq
            go_wp2_with fail
            go_quiet (fail)
            go_wp2_with fail
            go_roundg (G - 1)
            case measure => omega
            case rel => exact ⟨below_drewN HW.out _, i + 1, ys, by omega, by go_num, by omega, hyl, World.ownsRow.drew HO.out, HP.out, HDN.out HQ.out⟩
    · go_wp2_with fail
      go_ret
      exact ⟨_, xs, rfl, HO.out, HP.out, HS.out.pairwise (by omega), HW.out⟩
end Go.Proofs.Ytnicjpfkiblimaa
