/- Cuts: the law's links, ints: walked (by program: wip/tools/gen_cl1.py).
Cuts: Fit, of the program and of the document: walked (by program: wip/tools/gen_cl2.py). -/
import Derived.Test.YtenilbofncfbdaaCD
import Derived.Test.YtenilbofncfbdaaCE
import Derived.Test.YtenilbofncfbdaaCJ
set_option linter.unusedSimpArgs false
set_option linter.unusedVariables false
namespace Go.Proofs.Ytenilbofncfbdaa
open Go.RowKit

theorem take_eq {α : Type} {xs ys : List α} {k : Nat} (h : xs.take k = ys.take k) (h1 : k < xs.length) (h2 : k < ys.length) (e : xs[k] = ys[k]) : xs.take (k + 1) = ys.take (k + 1) := by
  rw [List.take_add_one, List.take_add_one, h, List.getElem?_eq_getElem h1, List.getElem?_eq_getElem h2, e]
theorem take_ne {α : Type} {xs ys : List α} {k : Nat} (h1 : k < xs.length) (h2 : k < ys.length) (e : xs[k] ≠ ys[k]) : xs ≠ ys := by
  rintro rfl; exact e rfl

set_option maxRecDepth 100000 in
set_option maxHeartbeats 4000000 in
theorem links_any (W : World) (av bv : Value) (xs ys : Ipr) (ha : Lks W W.heap.size av xs) (hb : Lks W W.heap.size bv ys) :
    Calls Try.prog 14 #[av, bv] W fun e w' => e = .returned (.bool (decide (xs = ys))) ∧ Below W.heap.size W w' := by
  obtain ⟨ao, ac, rfl, hac, hal⟩ := ha.slice
  obtain ⟨bo, bc, rfl, hbc, hbl⟩ := hb.slice
  have HA := Lib.hid ha
  have HB := Lib.hid hb
  obtain ⟨R, hR⟩ : ∃ R, R = decide (xs = ys) := ⟨_, rfl⟩
  rw [← hR]
  have HR := Lib.hid hR
  obtain ⟨m, hm⟩ : ∃ m, m = xs.length := ⟨_, rfl⟩
  obtain ⟨n, hn⟩ : ∃ m, m = ys.length := ⟨_, rfl⟩
  have HM := Lib.hid hm
  have HN := Lib.hid hn
  rw [← hm] at HA hac hal ⊢
  rw [← hn] at HB hbc hbl ⊢
  by_cases hmn : m = n
  · subst hmn
    clear ha hb hR hm hn
    go_enter Try.func14, Try.ntmps14
    go_wp2_with (fail)
    go_loopw [13] (fun kv wx => ∃ k : Nat, kv = .int .i64 (k : Int) ∧ k ≤ m ∧ Hid (xs.take k = ys.take k) ∧ Hid (Below W.heap.size W wx)) (fun kv _ => m - (intOf kv).toNat)
    case atStart => exact ⟨0, rfl, Nat.zero_le _, by show _ = _; simp, Below.refl _ _⟩
    case round =>
      obtain ⟨k, rfl, hk, HT, HBE⟩ := hrel
      by_cases hlt : k < m
      · have hkx : k < xs.length := by have := HM.out; omega
        have hky : k < ys.length := by have := HN.out; omega
        obtain ⟨b1, o1, e1, hl1, cA1, cB1⟩ := Lks.at (HA.out.below HBE.out (Nat.le_refl _)) k hkx
        obtain ⟨b2, o2, e2, hl2, cA2, cB2⟩ := Lks.at (HB.out.below HBE.out (Nat.le_refl _)) k hky
        subst e1 e2
        have g1 : xs.getD k (0, 0) = xs[k] := by simp [List.getD, hkx]
        have g2 : ys.getD k (0, 0) = ys[k] := by simp [List.getD, hky]
        rw [g1] at cA1 cB1
        rw [g2] at cA2 cB2
        obtain ⟨x1, hx1⟩ : ∃ x, x = xs[k].1 := ⟨_, rfl⟩
        obtain ⟨x2, hx2⟩ : ∃ x, x = xs[k].2 := ⟨_, rfl⟩
        obtain ⟨y1, hy1⟩ : ∃ x, x = ys[k].1 := ⟨_, rfl⟩
        obtain ⟨y2, hy2⟩ : ∃ x, x = ys[k].2 := ⟨_, rfl⟩
        rw [← hx1] at cA1
        rw [← hx2] at cB1
        rw [← hy1] at cA2
        rw [← hy2] at cB2
        have HEQ : Hid (x1 = y1 → x2 = y2 → xs.take (k + 1) = ys.take (k + 1)) := fun a b => take_eq HT.out hkx hky (Prod.ext (by rw [← hx1, ← hy1, a]) (by rw [← hx2, ← hy2, b]))
        have HNE : Hid (x1 ≠ y1 ∨ x2 ≠ y2 → R = false) := by
          intro h
          rw [HR.out, decide_eq_false_iff_not]
          refine take_ne hkx hky ?_
          intro e
          rcases h with h | h
          · exact h (by rw [hx1, hy1, e])
          · exact h (by rw [hx2, hy2, e])
        have hw1 : b1 < wr.heap.size := by have := HBE.out.size; omega
        have hw2 : b2 < wr.heap.size := by have := HBE.out.size; omega
        clear hx1 hx2 hy1 hy2 g1 g2
        by_cases h1 : x1 = y1
        · by_cases h2 : x2 = y2
          · have HE := Lib.hid (HEQ.out h1 h2)
            subst h1 h2
            go_wp2_with (fail)
            go_quiet (fail)
            go_wp2_with (fail)
            go_roundw
            case rel => exact ⟨k + 1, by go_num, by omega, HE.out, HBE.out.trans (bdN _ _ _)⟩
            case measure => simp [intOf] <;> omega
          · have HE := Lib.hid (HNE.out (.inr h2))
            subst h1
            have hb2 : (x2 == y2) = false := by simpa using h2
            go_wp2_with (fail)
            go_quiet (fail)
            go_wp2_with (fail)
            go_ret
            rw [HE.out]
            exact ⟨rfl, HBE.out.trans (bdN _ _ _)⟩
        · have HE := Lib.hid (HNE.out (.inl h1))
          have hb1 : (x1 == y1) = false := by simpa using h1
          go_wp2_with (fail)
          go_quiet (fail)
          go_wp2_with (fail)
          go_ret
          rw [HE.out]
          exact ⟨rfl, HBE.out.trans (bdN _ _ _)⟩
      · obtain rfl : k = m := by omega
        have HE : Hid (R = true) := by
          show _ = _
          rw [HR.out, decide_eq_true_eq]
          have h0 := HT.out
          rw [show xs.take k = xs by rw [HM.out, List.take_length], show ys.take k = ys by rw [HN.out, List.take_length]] at h0
          exact h0
        go_wp2_with (fail)
        go_ret
        rw [HE.out]
        exact ⟨rfl, HBE.out⟩
  · have HE : Hid (R = false) := by
      show _ = _
      rw [HR.out, decide_eq_false_iff_not]
      rintro rfl
      exact hmn (HM.out.trans HN.out.symm)
    have hmb : ((m : Int) == (n : Int)) = false := by rw [beq_eq_false_iff_ne]; omega
    clear ha hb hR hm hn hmn
    go_enter Try.func14, Try.ntmps14
    go_wp2_with (fail)
    go_ret
    rw [HE.out]
    exact ⟨rfl, Below.refl _ _⟩

set_option maxRecDepth 100000 in
set_option maxHeartbeats 4000000 in
theorem ints_any (W : World) (av bv : Value) (xs ys : List Int) (ha : Its W W.heap.size av xs) (hb : Its W W.heap.size bv ys) :
    Calls Try.prog 26 #[av, bv] W fun e w' => e = .returned (.bool (decide (xs = ys))) ∧ Below W.heap.size W w' := by
  obtain ⟨ao, ac, rfl, hac, hal⟩ := ha.slice
  obtain ⟨bo, bc, rfl, hbc, hbl⟩ := hb.slice
  have HA := Lib.hid ha
  have HB := Lib.hid hb
  obtain ⟨R, hR⟩ : ∃ R, R = decide (xs = ys) := ⟨_, rfl⟩
  rw [← hR]
  have HR := Lib.hid hR
  obtain ⟨m, hm⟩ : ∃ m, m = xs.length := ⟨_, rfl⟩
  obtain ⟨n, hn⟩ : ∃ m, m = ys.length := ⟨_, rfl⟩
  have HM := Lib.hid hm
  have HN := Lib.hid hn
  rw [← hm] at HA hac hal ⊢
  rw [← hn] at HB hbc hbl ⊢
  by_cases hmn : m = n
  · subst hmn
    clear ha hb hR hm hn
    go_enter Try.func26, Try.ntmps26
    go_wp2_with (fail)
    go_loopw [13] (fun kv wx => ∃ k : Nat, kv = .int .i64 (k : Int) ∧ k ≤ m ∧ Hid (xs.take k = ys.take k) ∧ Hid (Below W.heap.size W wx)) (fun kv _ => m - (intOf kv).toNat)
    case atStart => exact ⟨0, rfl, Nat.zero_le _, by show _ = _; simp, Below.refl _ _⟩
    case round =>
      obtain ⟨k, rfl, hk, HT, HBE⟩ := hrel
      by_cases hlt : k < m
      · have hkx : k < xs.length := by have := HM.out; omega
        have hky : k < ys.length := by have := HN.out; omega
        obtain ⟨b1, o1, e1, hl1, cA1⟩ := Its.at (HA.out.below HBE.out (Nat.le_refl _)) k hkx
        obtain ⟨b2, o2, e2, hl2, cA2⟩ := Its.at (HB.out.below HBE.out (Nat.le_refl _)) k hky
        subst e1 e2
        have g1 : xs.getD k 0 = xs[k] := by simp [List.getD, hkx]
        have g2 : ys.getD k 0 = ys[k] := by simp [List.getD, hky]
        rw [g1] at cA1
        rw [g2] at cA2
        obtain ⟨x1, hx1⟩ : ∃ x, x = xs[k] := ⟨_, rfl⟩
        obtain ⟨y1, hy1⟩ : ∃ x, x = ys[k] := ⟨_, rfl⟩
        rw [← hx1] at cA1
        rw [← hy1] at cA2
        have HEQ : Hid (x1 = y1 → xs.take (k + 1) = ys.take (k + 1)) := fun a => take_eq HT.out hkx hky (by rw [← hx1, ← hy1, a])
        have HNE : Hid (x1 ≠ y1 → R = false) := by
          intro h
          rw [HR.out, decide_eq_false_iff_not]
          exact take_ne hkx hky (by intro e; exact h (by rw [hx1, hy1, e]))
        have hw1 : b1 < wr.heap.size := by have := HBE.out.size; omega
        have hw2 : b2 < wr.heap.size := by have := HBE.out.size; omega
        clear hx1 hy1 g1 g2
        by_cases h1 : x1 = y1
        · have HE := Lib.hid (HEQ.out h1)
          subst h1
          go_wp2_with (fail)
          go_quiet (fail)
          go_wp2_with (fail)
          go_roundw
          case rel => exact ⟨k + 1, by go_num, by omega, HE.out, HBE.out.trans (bdN _ _ _)⟩
          case measure => simp [intOf] <;> omega
        · have HE := Lib.hid (HNE.out h1)
          have hb1 : (x1 == y1) = false := by simpa using h1
          go_wp2_with (fail)
          go_quiet (fail)
          go_wp2_with (fail)
          go_ret
          rw [HE.out]
          exact ⟨rfl, HBE.out.trans (bdN _ _ _)⟩
      · obtain rfl : k = m := by omega
        have HE : Hid (R = true) := by
          show _ = _
          rw [HR.out, decide_eq_true_eq]
          have h0 := HT.out
          rw [show xs.take k = xs by rw [HM.out, List.take_length], show ys.take k = ys by rw [HN.out, List.take_length]] at h0
          exact h0
        go_wp2_with (fail)
        go_ret
        rw [HE.out]
        exact ⟨rfl, HBE.out⟩
  · have HE : Hid (R = false) := by
      show _ = _
      rw [HR.out, decide_eq_false_iff_not]
      rintro rfl
      exact hmn (HM.out.trans HN.out.symm)
    have hmb : ((m : Int) == (n : Int)) = false := by rw [beq_eq_false_iff_ne]; omega
    clear ha hb hR hm hn hmn
    go_enter Try.func26, Try.ntmps26
    go_wp2_with (fail)
    go_ret
    rw [HE.out]
    exact ⟨rfl, Below.refl _ _⟩

end Go.Proofs.Ytenilbofncfbdaa

namespace Go.Proofs.Ytenilbofncfbdaa
open Go.RowKit

/-- is the k-th pair fit? -/
def fitAt (n : Int) (xs : Ipr) (k : Nat) : Prop :=
 0 ≤ (xs.getD k (0, 0)).1 ∧ (xs.getD k (0, 0)).1 < (xs.getD k (0, 0)).2 ∧ (xs.getD k (0, 0)).2 < n ∧ (0 < k → (xs.getD (k - 1) (0, 0)).1 < (xs.getD k (0, 0)).1 ∨ (xs.getD (k - 1) (0, 0)).1 = (xs.getD k (0, 0)).1 ∧ (xs.getD (k - 1) (0, 0)).2 < (xs.getD k (0, 0)).2)
def FitX (n : Int) (xs : Ipr) : Prop := 1 ≤ n ∧ n ≤ 16 ∧ ∀ k, k < xs.length → fitAt n xs k
noncomputable def fitB (n : Int) (xs : Ipr) : Bool := @decide (FitX n xs) (Classical.propDecidable _)
theorem fitB_true {n : Int} {xs : Ipr} (h : FitX n xs) : fitB n xs = true := by unfold fitB; exact @decide_eq_true _ (Classical.propDecidable _) h
theorem fitB_false {n : Int} {xs : Ipr} (h : ¬ FitX n xs) : fitB n xs = false := by unfold fitB; exact @decide_eq_false _ (Classical.propDecidable _) h
/-- fit pairs are pairs of nodes -/
theorem FitX.nodes {n : Int} {xs : Ipr} (h : FitX n xs) : ∃ (m : Nat) (L : Prs), n = (m : Int) ∧ xs = prI L ∧ FitL m L ∧ 1 ≤ m ∧ m ≤ 16 := by
 obtain ⟨h1, h2, h3⟩ := h
 refine ⟨n.toNat, xs.map fun p => (p.1.toNat, p.2.toNat), by omega, ?_, ?_, by omega, by omega⟩
 ·unfold prI
  rw [List.map_map]
  refine List.ext_getElem (by simp) fun k hk1 hk2 => ?_
  have := h3 k hk1
  unfold fitAt at this
  have e : xs.getD k (0, 0) = xs[k] := by simp [List.getD, hk1]
  rw [e] at this
  simp only [List.getElem_map, Function.comp]
  exact Prod.ext (by show xs[k].1 = ((xs[k].1.toNat : Nat) : Int); omega) (by show xs[k].2 = ((xs[k].2.toNat : Nat) : Int); omega)
 ·have gA : ∀ k, k < xs.length → endA (xs.map fun p => (p.1.toNat, p.2.toNat)) k = (xs.getD k (0, 0)).1.toNat ∧ endB (xs.map fun p => (p.1.toNat, p.2.toNat)) k = (xs.getD k (0, 0)).2.toNat := fun k hk => by
   unfold endA endB
   simp [List.getD, hk]
  have step : ∀ d i, i + d + 1 < xs.length → (xs.getD i (0, 0)).1 < (xs.getD (i + d + 1) (0, 0)).1 ∨ (xs.getD i (0, 0)).1 = (xs.getD (i + d + 1) (0, 0)).1 ∧ (xs.getD i (0, 0)).2 < (xs.getD (i + d + 1) (0, 0)).2 := by
   intro d
   induction d with
   | zero => intro i hi; have := (h3 (i + 1) hi).2.2.2 (by omega); simpa using this
   | succ d ih =>
    intro i hi
    have a := ih i (by omega)
    have b := (h3 (i + d + 1 + 1) (by omega)).2.2.2 (by omega)
    rw [show i + d + 1 + 1 - 1 = i + d + 1 by omega] at b
    rw [show i + (d + 1) + 1 = i + d + 1 + 1 by omega]
    omega
  refine ⟨fun k hk => ?_, fun i j hij hj => ?_⟩
  ·rw [List.length_map] at hk
   obtain ⟨e1, e2⟩ := gA k hk
   have := h3 k hk
   unfold fitAt at this
   rw [e1, e2]
   omega
  ·rw [List.length_map] at hj
   obtain ⟨e1, e2⟩ := gA i (by omega)
   obtain ⟨e3, e4⟩ := gA j hj
   have a := h3 i (by omega)
   have b := h3 j hj
   unfold fitAt at a b
   have s := step (j - i - 1) i (by omega)
   rw [show i + (j - i - 1) + 1 = j by omega] at s
   rw [e1, e2, e3, e4]
   omega
theorem fit_len {n : Nat} {L : Prs} (h : FitL n L) (hn : n ≤ 16) : L.length ≤ 256 := by
 have hnd : L.Nodup := by
  rw [fit_row] at h
  exact h.2.imp fun {p q} hpq e => by subst e; omega
 have hinj : (L.map fun p => p.1 * 16 + p.2).Nodup := by
  rw [List.nodup_iff_pairwise_ne] at hnd ⊢
  rw [List.pairwise_map]
  refine hnd.imp_of_mem fun {p q} hp hq hpq e => hpq ?_
  have a := (fit_row.1 h).1 p hp
  have b := (fit_row.1 h).1 q hq
  exact Prod.ext (by omega) (by omega)
 have hlt : ∀ x ∈ L.map fun p => p.1 * 16 + p.2, x < 256 := by
  intro x hx
  obtain ⟨p, hp, rfl⟩ := List.mem_map.1 hx
  have a := (fit_row.1 h).1 p hp
  omega
 have := nodup_bound hinj hlt
 rwa [List.length_map] at this

set_option maxRecDepth 100000 in
set_option maxHeartbeats 4000000 in
theorem fit_any (W : World) (n : Int) (v : Value) (xs : Ipr) (hx : Lks W W.heap.size v xs) :
  Calls Try.prog 24 #[.int .i64 n, v] W fun e w' => e = .returned (.bool (fitB n xs)) ∧ Below W.heap.size W w' := by
 obtain ⟨ao, ac, rfl, hac, hal⟩ := hx.slice
 have HX := Lib.hid hx
 obtain ⟨R, hR⟩ : ∃ R, R = fitB n xs := ⟨_, rfl⟩
 rw [← hR]
 have HT : Hid (FitX n xs → R = true) := fun h => by rw [hR]; exact fitB_true h
 have HFL : Hid (¬ FitX n xs → R = false) := fun h => by rw [hR]; exact fitB_false h
 obtain ⟨m, hm⟩ : ∃ m, m = xs.length := ⟨_, rfl⟩
 have HM := Lib.hid hm
 rw [← hm] at HX hac hal ⊢
 clear hx hR hm
 by_cases h1 : n < 1
 ·have HE : Hid (R = false) := HFL.out (by rintro ⟨a, -⟩; omega)
  go_enter Try.func24, Try.ntmps24
  go_wp2_with (fail)
  go_ret
  rw [HE.out]
  exact ⟨rfl, Below.refl _ _⟩
 ·by_cases h2 : 16 < n
  ·have HE : Hid (R = false) := HFL.out (by rintro ⟨-, a, -⟩; omega)
   go_enter Try.func24, Try.ntmps24
   go_wp2_with (fail)
   go_ret
   rw [HE.out]
   exact ⟨rfl, Below.refl _ _⟩
  ·have HNN : Hid (1 ≤ n ∧ n ≤ 16) := ⟨by omega, by omega⟩
   go_enter Try.func24, Try.ntmps24
   go_wp2_with (fail)
   clear h1 h2
   go_loopw [15] (fun kv wx => ∃ k : Nat, kv = .int .i64 (k : Int) ∧ k ≤ m ∧ Hid (∀ j, j < k → fitAt n xs j) ∧ Hid (Below W.heap.size W wx)) (fun kv _ => m - (intOf kv).toNat)
   case atStart => exact ⟨0, rfl, Nat.zero_le _, (by show ∀ j, _; omega), Below.refl _ _⟩
   case round =>
    obtain ⟨k, rfl, hk, HK, HB⟩ := hrel
    by_cases hlt : k < m
    ·have hkx : k < xs.length := by have := HM.out; omega
     obtain ⟨bl, ol, e1, hl1, cA, cB⟩ := Lks.at (HX.out.below HB.out (Nat.le_refl _)) k hkx
     subst e1
     obtain ⟨x, hx⟩ : ∃ x, x = (xs.getD k (0, 0)).1 := ⟨_, rfl⟩
     obtain ⟨y, hy⟩ : ∃ x, x = (xs.getD k (0, 0)).2 := ⟨_, rfl⟩
     rw [← hx] at cA
     rw [← hy] at cB
     have HXY : Hid (x = (xs.getD k (0, 0)).1 ∧ y = (xs.getD k (0, 0)).2) := ⟨hx, hy⟩
     have HBAD : Hid (¬ fitAt n xs k → R = false) := fun h => HFL.out fun hf => h (hf.2.2 k hkx)
     have HOK : Hid (fitAt n xs k → ∀ j, j < k + 1 → fitAt n xs j) := fun h j hj => by
      by_cases e : j = k
      ·rw [e]; exact h
      ·exact HK.out j (by omega)
     have hbw : bl < wr.heap.size := by have := HB.out.size; omega
     obtain ⟨q, hq⟩ : ∃ q, q = wr.heap.size := ⟨_, rfl⟩
     obtain ⟨W1, hW1⟩ : ∃ W1, W1 = wr.alloc (.cells #[.int .i64 x, .int .i64 y] 38) := ⟨_, rfl⟩
     have m1 := new_block wr (.cells #[.int .i64 x, .int .i64 y] 38)
     rw [← hW1, ← hq] at m1
     have HB2 : Hid (Below W.heap.size W W1.drew) := (HB.out.trans (m1.1.mono (by rw [hq]; exact HB.out.size))).trans (bdN _ _ 1)
     have HB3 : Hid (Below W.heap.size W W1) := HB.out.trans (m1.1.mono (by rw [hq]; exact HB.out.size))
     have cq0 : W1.drew.cell? ⟨q, 0, none⟩ = some (.int .i64 x) := cell_of_row _ _ 0 _ _ _ m1.2
     have cq1 : W1.drew.cell? ⟨q, 1, none⟩ = some (.int .i64 y) := cell_of_row _ _ 1 _ _ _ m1.2
     have HW1 := Lib.hid hW1
     have HQ := Lib.hid hq
     clear hx hy hkx m1 hq hW1
     by_cases c1 : x < 0
     ·
      have HE : Hid (R = false) := HBAD.out (by unfold fitAt; rw [← HXY.out.1, ← HXY.out.2]; omega)
      go_wp2_with (fail)
      rw [← HQ.out, ← HW1.out]
      refine wpIn_wide (n := 5).1 (wpIn_flowM (F0 := Fence.wide) (n0 := 5) (fun _ => trivial) (fun h => by cases h) (by kernel_rfl) (by kernel_rfl) 53 53 (by kernel_rfl) (fun j => ([0, 1, 2, 3, 4, 5, 6, 7, 8, 9, 10, 11, 12, 13, 14, 15, 16, 17, 18, 19, 20, 21, 22, 23, 24, 25, 26, 27, 28, 29, 30, 31, 32, 33, 34, 35, 36, 37, 38, 39, 40, 41, 42, 43, 44, 45, 46, 47, 48, 49, 50, 51, 52] : List Nat).getD j 0) (fun j => ([20, 21, 22, 23, 24, 25, 26, 27, 28, 29, 30, 31, 32, 33, 34, 35, 36, 37, 38, 39, 40, 41, 42, 43, 44, 45, 46, 47, 48, 49, 50, 51, 52, 53, 54, 55, 56, 57, 58, 59, 60, 61, 62, 63, 64, 65, 66, 67, 68, 69, 70, 71, 72] : List Nat).getD j 0) (by kernel_rfl) (by kernel_rfl) (by kernel_rfl) (by kernel_rfl) (by kernel_rfl) (by kernel_rfl) (by kernel_rfl) (fun j zv => ([(fun zv => zv = (.pointer (some ⟨q, 0, none⟩))), (fun zv => zv = (.int .i64 x)), (fun zv => zv = (.bool true)), (fun zv => zv = (.bool true)), (fun zv => zv = undef), (fun zv => zv = undef), (fun zv => zv = undef), (fun zv => zv = undef), (fun zv => zv = undef), (fun zv => zv = (.bool true)), (fun zv => zv = (.bool true)), (fun zv => zv = undef), (fun zv => zv = undef), (fun zv => zv = undef), (fun zv => zv = undef), (fun zv => zv = (.bool true)), (fun zv => zv = (.bool true)), (fun zv => zv = undef), (fun zv => zv = undef), (fun zv => zv = undef), (fun zv => zv = undef), (fun zv => zv = undef), (fun zv => zv = undef), (fun zv => zv = undef), (fun zv => zv = undef), (fun zv => zv = undef), (fun zv => zv = undef), (fun zv => zv = undef), (fun zv => zv = undef), (fun zv => zv = undef), (fun zv => zv = undef), (fun zv => zv = undef), (fun zv => zv = undef), (fun zv => zv = undef), (fun zv => zv = undef), (fun zv => zv = undef), (fun zv => zv = undef), (fun zv => zv = undef), (fun zv => zv = undef), (fun zv => zv = undef), (fun zv => zv = undef), (fun zv => zv = undef), (fun zv => zv = undef), (fun zv => zv = undef), (fun zv => zv = undef), (fun zv => zv = undef), (fun zv => zv = undef), (fun zv => zv = undef), (fun zv => zv = undef), (fun zv => zv = undef), (fun zv => zv = undef), (fun zv => zv = undef), (fun zv => zv = (.bool true))] : List (Value → Prop)).getD j (fun _ => True) zv) (fun _ _ W => W = W1.drew) ?h0yt ?stepyt ?finyt)
      case h0yt => exact fun _ => rfl
      case stepyt =>
       intro i o a W d vs hi ho hdi hJ hf hr hF
       replace hi : i < 53 := hi
       rcases (show i = 0 ∨ i = 1 ∨ i = 2 ∨ i = 3 ∨ i = 4 ∨ i = 5 ∨ i = 6 ∨ i = 7 ∨ i = 8 ∨ i = 9 ∨ i = 10 ∨ i = 11 ∨ i = 12 ∨ i = 13 ∨ i = 14 ∨ i = 15 ∨ i = 16 ∨ i = 17 ∨ i = 18 ∨ i = 19 ∨ i = 20 ∨ i = 21 ∨ i = 22 ∨ i = 23 ∨ i = 24 ∨ i = 25 ∨ i = 26 ∨ i = 27 ∨ i = 28 ∨ i = 29 ∨ i = 30 ∨ i = 31 ∨ i = 32 ∨ i = 33 ∨ i = 34 ∨ i = 35 ∨ i = 36 ∨ i = 37 ∨ i = 38 ∨ i = 39 ∨ i = 40 ∨ i = 41 ∨ i = 42 ∨ i = 43 ∨ i = 44 ∨ i = 45 ∨ i = 46 ∨ i = 47 ∨ i = 48 ∨ i = 49 ∨ i = 50 ∨ i = 51 ∨ i = 52 by omega) with rfl | rfl | rfl | rfl | rfl | rfl | rfl | rfl | rfl | rfl | rfl | rfl | rfl | rfl | rfl | rfl | rfl | rfl | rfl | rfl | rfl | rfl | rfl | rfl | rfl | rfl | rfl | rfl | rfl | rfl | rfl | rfl | rfl | rfl | rfl | rfl | rfl | rfl | rfl | rfl | rfl | rfl | rfl | rfl | rfl | rfl | rfl | rfl | rfl | rfl | rfl | rfl | rfl
       all_goals
        replace ho := op_at ho (by rfl)
        subst ho
       ·have f6 : a.tmps.getD 6 undef = (.pointer (some ⟨q, 0, none⟩)) := hf 6 (by kernel_rfl)
        subst hJ
        exact .inl ⟨(fun k b h => by cases h), .inl ⟨0, by decide, rfl, (.pointer (some ⟨q, 0, none⟩)), W1.drew, (by simp [go_sem, Act.eval, f6]), rfl, rfl⟩⟩
       ·have d0 : a.tmps.getD 20 undef = (.pointer (some ⟨q, 0, none⟩)) := fdn (hF 0 (by decide) (hr 0 (by kernel_rfl)))
        subst hJ
        exact .inl ⟨(fun k b h => by cases h), .inl ⟨1, by decide, rfl, (.int .i64 x), W1.drew, (by simp [go_sem, Act.eval, d0, cq0]), rfl, rfl⟩⟩
       ·have d1 : a.tmps.getD 21 undef = (.int .i64 x) := fdn (hF 1 (by decide) (hr 1 (by kernel_rfl)))
        subst hJ
        exact .inl ⟨(fun k b h => by cases h), .inl ⟨2, by decide, rfl, (.bool true), W1.drew, (by simp [go_sem, Act.eval, d1, c1]), rfl, rfl⟩⟩
       ·have d2 : a.tmps.getD 22 undef = (.bool true) := fdn (hF 2 (by decide) (hr 2 (by kernel_rfl)))
        subst hJ
        exact .inl ⟨(fun k b h => by cases h), .inl ⟨3, by decide, rfl, (.bool true), W1.drew, (by simp [go_sem, Act.eval, d2]), rfl, rfl⟩⟩
       ·have d3 : a.tmps.getD 23 undef = (.bool true) := fdn (hF 3 (by decide) (hr 3 (by kernel_rfl)))
        subst hJ
        exact .inr ⟨3, false, 3, rfl, by decide, rfl, (nhB d3 rfl), .inl ⟨4, by decide, rfl, rfl, rfl⟩⟩
       ·have d3 : a.tmps.getD 23 undef = (.bool true) := fdn (hF 3 (by decide) (hr 3 (by kernel_rfl)))
        subst hJ
        exact .inr ⟨3, false, 3, rfl, by decide, rfl, (nhB d3 rfl), .inl ⟨5, by decide, rfl, rfl, rfl⟩⟩
       ·have d3 : a.tmps.getD 23 undef = (.bool true) := fdn (hF 3 (by decide) (hr 3 (by kernel_rfl)))
        subst hJ
        exact .inr ⟨3, false, 3, rfl, by decide, rfl, (nhB d3 rfl), .inl ⟨6, by decide, rfl, rfl, rfl⟩⟩
       ·have d3 : a.tmps.getD 23 undef = (.bool true) := fdn (hF 3 (by decide) (hr 3 (by kernel_rfl)))
        subst hJ
        exact .inr ⟨3, false, 3, rfl, by decide, rfl, (nhB d3 rfl), .inl ⟨7, by decide, rfl, rfl, rfl⟩⟩
       ·have d3 : a.tmps.getD 23 undef = (.bool true) := fdn (hF 3 (by decide) (hr 3 (by kernel_rfl)))
        subst hJ
        exact .inr ⟨3, false, 3, rfl, by decide, rfl, (nhB d3 rfl), .inl ⟨8, by decide, rfl, rfl, rfl⟩⟩
       ·have d3 : a.tmps.getD 23 undef = (.bool true) := fdn (hF 3 (by decide) (hr 3 (by kernel_rfl)))
        subst hJ
        exact .inl ⟨(fun k b h => by cases h), .inl ⟨9, by decide, rfl, (.bool true), W1.drew, (by simp [go_sem, Act.eval, d3]), rfl, rfl⟩⟩
       ·have d9 : a.tmps.getD 29 undef = (.bool true) := fdn (hF 9 (by decide) (hr 9 (by kernel_rfl)))
        subst hJ
        exact .inl ⟨(fun k b h => by cases h), .inl ⟨10, by decide, rfl, (.bool true), W1.drew, (by simp [go_sem, Act.eval, d9]), rfl, rfl⟩⟩
       ·have d10 : a.tmps.getD 30 undef = (.bool true) := fdn (hF 10 (by decide) (hr 10 (by kernel_rfl)))
        subst hJ
        exact .inr ⟨10, false, 10, rfl, by decide, rfl, (nhB d10 rfl), .inl ⟨11, by decide, rfl, rfl, rfl⟩⟩
       ·have d10 : a.tmps.getD 30 undef = (.bool true) := fdn (hF 10 (by decide) (hr 10 (by kernel_rfl)))
        subst hJ
        exact .inr ⟨10, false, 10, rfl, by decide, rfl, (nhB d10 rfl), .inl ⟨12, by decide, rfl, rfl, rfl⟩⟩
       ·have d10 : a.tmps.getD 30 undef = (.bool true) := fdn (hF 10 (by decide) (hr 10 (by kernel_rfl)))
        subst hJ
        exact .inr ⟨10, false, 10, rfl, by decide, rfl, (nhB d10 rfl), .inl ⟨13, by decide, rfl, rfl, rfl⟩⟩
       ·have d10 : a.tmps.getD 30 undef = (.bool true) := fdn (hF 10 (by decide) (hr 10 (by kernel_rfl)))
        subst hJ
        exact .inr ⟨10, false, 10, rfl, by decide, rfl, (nhB d10 rfl), .inl ⟨14, by decide, rfl, rfl, rfl⟩⟩
       ·have d10 : a.tmps.getD 30 undef = (.bool true) := fdn (hF 10 (by decide) (hr 10 (by kernel_rfl)))
        subst hJ
        exact .inl ⟨(fun k b h => by cases h), .inl ⟨15, by decide, rfl, (.bool true), W1.drew, (by simp [go_sem, Act.eval, d10]), rfl, rfl⟩⟩
       ·have d15 : a.tmps.getD 35 undef = (.bool true) := fdn (hF 15 (by decide) (hr 15 (by kernel_rfl)))
        subst hJ
        exact .inl ⟨(fun k b h => by cases h), .inl ⟨16, by decide, rfl, (.bool true), W1.drew, (by simp [go_sem, Act.eval, d15]), rfl, rfl⟩⟩
       ·have d16 : a.tmps.getD 36 undef = (.bool true) := fdn (hF 16 (by decide) (hr 16 (by kernel_rfl)))
        subst hJ
        exact .inr ⟨16, false, 16, rfl, by decide, rfl, (nhB d16 rfl), .inl ⟨17, by decide, rfl, rfl, rfl⟩⟩
       ·have d16 : a.tmps.getD 36 undef = (.bool true) := fdn (hF 16 (by decide) (hr 16 (by kernel_rfl)))
        subst hJ
        exact .inr ⟨16, false, 16, rfl, by decide, rfl, (nhB d16 rfl), .inl ⟨18, by decide, rfl, rfl, rfl⟩⟩
       ·have d16 : a.tmps.getD 36 undef = (.bool true) := fdn (hF 16 (by decide) (hr 16 (by kernel_rfl)))
        subst hJ
        exact .inr ⟨16, false, 16, rfl, by decide, rfl, (nhB d16 rfl), .inl ⟨19, by decide, rfl, rfl, rfl⟩⟩
       ·have d19 : a.tmps.getD 39 undef = undef := fdn (hF 19 (by decide) (hr 19 (by kernel_rfl)))
        subst hJ
        exact .inr ⟨19, true, 19, rfl, by decide, rfl, (nhU d19), .inl ⟨20, by decide, rfl, rfl, rfl⟩⟩
       ·have d19 : a.tmps.getD 39 undef = undef := fdn (hF 19 (by decide) (hr 19 (by kernel_rfl)))
        subst hJ
        exact .inr ⟨19, true, 19, rfl, by decide, rfl, (nhU d19), .inl ⟨21, by decide, rfl, rfl, rfl⟩⟩
       ·have d19 : a.tmps.getD 39 undef = undef := fdn (hF 19 (by decide) (hr 19 (by kernel_rfl)))
        subst hJ
        exact .inr ⟨19, true, 19, rfl, by decide, rfl, (nhU d19), .inl ⟨22, by decide, rfl, rfl, rfl⟩⟩
       ·have d19 : a.tmps.getD 39 undef = undef := fdn (hF 19 (by decide) (hr 19 (by kernel_rfl)))
        subst hJ
        exact .inr ⟨19, true, 19, rfl, by decide, rfl, (nhU d19), .inl ⟨23, by decide, rfl, rfl, rfl⟩⟩
       ·have d19 : a.tmps.getD 39 undef = undef := fdn (hF 19 (by decide) (hr 19 (by kernel_rfl)))
        subst hJ
        exact .inr ⟨19, true, 19, rfl, by decide, rfl, (nhU d19), .inl ⟨24, by decide, rfl, rfl, rfl⟩⟩
       ·have d19 : a.tmps.getD 39 undef = undef := fdn (hF 19 (by decide) (hr 19 (by kernel_rfl)))
        subst hJ
        exact .inr ⟨19, true, 19, rfl, by decide, rfl, (nhU d19), .inl ⟨25, by decide, rfl, rfl, rfl⟩⟩
       ·have d19 : a.tmps.getD 39 undef = undef := fdn (hF 19 (by decide) (hr 19 (by kernel_rfl)))
        subst hJ
        exact .inr ⟨19, true, 19, rfl, by decide, rfl, (nhU d19), .inl ⟨26, by decide, rfl, rfl, rfl⟩⟩
       ·have d19 : a.tmps.getD 39 undef = undef := fdn (hF 19 (by decide) (hr 19 (by kernel_rfl)))
        subst hJ
        exact .inr ⟨19, true, 19, rfl, by decide, rfl, (nhU d19), .inl ⟨27, by decide, rfl, rfl, rfl⟩⟩
       ·have d19 : a.tmps.getD 39 undef = undef := fdn (hF 19 (by decide) (hr 19 (by kernel_rfl)))
        subst hJ
        exact .inr ⟨19, true, 19, rfl, by decide, rfl, (nhU d19), .inl ⟨28, by decide, rfl, rfl, rfl⟩⟩
       ·have d19 : a.tmps.getD 39 undef = undef := fdn (hF 19 (by decide) (hr 19 (by kernel_rfl)))
        subst hJ
        exact .inr ⟨19, true, 19, rfl, by decide, rfl, (nhU d19), .inl ⟨29, by decide, rfl, rfl, rfl⟩⟩
       ·have d29 : a.tmps.getD 49 undef = undef := fdn (hF 29 (by decide) (hr 29 (by kernel_rfl)))
        subst hJ
        exact .inr ⟨29, false, 29, rfl, by decide, rfl, (nhU d29), .inl ⟨30, by decide, rfl, rfl, rfl⟩⟩
       ·have d29 : a.tmps.getD 49 undef = undef := fdn (hF 29 (by decide) (hr 29 (by kernel_rfl)))
        subst hJ
        exact .inr ⟨29, false, 29, rfl, by decide, rfl, (nhU d29), .inl ⟨31, by decide, rfl, rfl, rfl⟩⟩
       ·have d29 : a.tmps.getD 49 undef = undef := fdn (hF 29 (by decide) (hr 29 (by kernel_rfl)))
        subst hJ
        exact .inr ⟨29, false, 29, rfl, by decide, rfl, (nhU d29), .inl ⟨32, by decide, rfl, rfl, rfl⟩⟩
       ·have d29 : a.tmps.getD 49 undef = undef := fdn (hF 29 (by decide) (hr 29 (by kernel_rfl)))
        subst hJ
        exact .inr ⟨29, false, 29, rfl, by decide, rfl, (nhU d29), .inl ⟨33, by decide, rfl, rfl, rfl⟩⟩
       ·have d29 : a.tmps.getD 49 undef = undef := fdn (hF 29 (by decide) (hr 29 (by kernel_rfl)))
        subst hJ
        exact .inr ⟨29, false, 29, rfl, by decide, rfl, (nhU d29), .inl ⟨34, by decide, rfl, rfl, rfl⟩⟩
       ·have d29 : a.tmps.getD 49 undef = undef := fdn (hF 29 (by decide) (hr 29 (by kernel_rfl)))
        subst hJ
        exact .inr ⟨29, false, 29, rfl, by decide, rfl, (nhU d29), .inl ⟨35, by decide, rfl, rfl, rfl⟩⟩
       ·have d29 : a.tmps.getD 49 undef = undef := fdn (hF 29 (by decide) (hr 29 (by kernel_rfl)))
        subst hJ
        exact .inr ⟨29, false, 29, rfl, by decide, rfl, (nhU d29), .inl ⟨36, by decide, rfl, rfl, rfl⟩⟩
       ·have d29 : a.tmps.getD 49 undef = undef := fdn (hF 29 (by decide) (hr 29 (by kernel_rfl)))
        subst hJ
        exact .inr ⟨29, false, 29, rfl, by decide, rfl, (nhU d29), .inl ⟨37, by decide, rfl, rfl, rfl⟩⟩
       ·have d29 : a.tmps.getD 49 undef = undef := fdn (hF 29 (by decide) (hr 29 (by kernel_rfl)))
        subst hJ
        exact .inr ⟨29, false, 29, rfl, by decide, rfl, (nhU d29), .inl ⟨38, by decide, rfl, rfl, rfl⟩⟩
       ·have d29 : a.tmps.getD 49 undef = undef := fdn (hF 29 (by decide) (hr 29 (by kernel_rfl)))
        subst hJ
        exact .inr ⟨29, false, 29, rfl, by decide, rfl, (nhU d29), .inl ⟨39, by decide, rfl, rfl, rfl⟩⟩
       ·have d39 : a.tmps.getD 59 undef = undef := fdn (hF 39 (by decide) (hr 39 (by kernel_rfl)))
        subst hJ
        exact .inr ⟨39, true, 39, rfl, by decide, rfl, (nhU d39), .inl ⟨40, by decide, rfl, rfl, rfl⟩⟩
       ·have d39 : a.tmps.getD 59 undef = undef := fdn (hF 39 (by decide) (hr 39 (by kernel_rfl)))
        subst hJ
        exact .inr ⟨39, true, 39, rfl, by decide, rfl, (nhU d39), .inl ⟨41, by decide, rfl, rfl, rfl⟩⟩
       ·have d39 : a.tmps.getD 59 undef = undef := fdn (hF 39 (by decide) (hr 39 (by kernel_rfl)))
        subst hJ
        exact .inr ⟨39, true, 39, rfl, by decide, rfl, (nhU d39), .inl ⟨42, by decide, rfl, rfl, rfl⟩⟩
       ·have d39 : a.tmps.getD 59 undef = undef := fdn (hF 39 (by decide) (hr 39 (by kernel_rfl)))
        subst hJ
        exact .inr ⟨39, true, 39, rfl, by decide, rfl, (nhU d39), .inl ⟨43, by decide, rfl, rfl, rfl⟩⟩
       ·have d39 : a.tmps.getD 59 undef = undef := fdn (hF 39 (by decide) (hr 39 (by kernel_rfl)))
        subst hJ
        exact .inr ⟨39, true, 39, rfl, by decide, rfl, (nhU d39), .inl ⟨44, by decide, rfl, rfl, rfl⟩⟩
       ·have d39 : a.tmps.getD 59 undef = undef := fdn (hF 39 (by decide) (hr 39 (by kernel_rfl)))
        subst hJ
        exact .inr ⟨39, true, 39, rfl, by decide, rfl, (nhU d39), .inl ⟨45, by decide, rfl, rfl, rfl⟩⟩
       ·have d39 : a.tmps.getD 59 undef = undef := fdn (hF 39 (by decide) (hr 39 (by kernel_rfl)))
        subst hJ
        exact .inr ⟨39, true, 39, rfl, by decide, rfl, (nhU d39), .inl ⟨46, by decide, rfl, rfl, rfl⟩⟩
       ·have d39 : a.tmps.getD 59 undef = undef := fdn (hF 39 (by decide) (hr 39 (by kernel_rfl)))
        subst hJ
        exact .inr ⟨39, true, 39, rfl, by decide, rfl, (nhU d39), .inl ⟨47, by decide, rfl, rfl, rfl⟩⟩
       ·have d39 : a.tmps.getD 59 undef = undef := fdn (hF 39 (by decide) (hr 39 (by kernel_rfl)))
        subst hJ
        exact .inr ⟨39, true, 39, rfl, by decide, rfl, (nhU d39), .inl ⟨48, by decide, rfl, rfl, rfl⟩⟩
       ·have d29 : a.tmps.getD 49 undef = undef := fdn (hF 29 (by decide) (hr 29 (by kernel_rfl)))
        subst hJ
        exact .inr ⟨29, false, 29, rfl, by decide, rfl, (nhU d29), .inl ⟨49, by decide, rfl, rfl, rfl⟩⟩
       ·have d19 : a.tmps.getD 39 undef = undef := fdn (hF 19 (by decide) (hr 19 (by kernel_rfl)))
        subst hJ
        exact .inr ⟨19, true, 19, rfl, by decide, rfl, (nhU d19), .inl ⟨50, by decide, rfl, rfl, rfl⟩⟩
       ·have d16 : a.tmps.getD 36 undef = (.bool true) := fdn (hF 16 (by decide) (hr 16 (by kernel_rfl)))
        subst hJ
        exact .inr ⟨16, false, 16, rfl, by decide, rfl, (nhB d16 rfl), .inl ⟨51, by decide, rfl, rfl, rfl⟩⟩
       ·have d16 : a.tmps.getD 36 undef = (.bool true) := fdn (hF 16 (by decide) (hr 16 (by kernel_rfl)))
        subst hJ
        exact .inl ⟨(fun k b h => by cases h), .inl ⟨52, by decide, rfl, (.bool true), W1.drew, (by simp [go_sem, Act.eval, d16]), rfl, rfl⟩⟩
      case finyt =>
       intro d vs Wyt hall hJ hF
       have h0 : vs 0 = (.pointer (some ⟨q, 0, none⟩)) := hF 0 (by decide)
       have h1 : vs 1 = (.int .i64 x) := hF 1 (by decide)
       have h2 : vs 2 = (.bool true) := hF 2 (by decide)
       have h3 : vs 3 = (.bool true) := hF 3 (by decide)
       have h4 : vs 4 = undef := hF 4 (by decide)
       have h5 : vs 5 = undef := hF 5 (by decide)
       have h6 : vs 6 = undef := hF 6 (by decide)
       have h7 : vs 7 = undef := hF 7 (by decide)
       have h8 : vs 8 = undef := hF 8 (by decide)
       have h9 : vs 9 = (.bool true) := hF 9 (by decide)
       have h10 : vs 10 = (.bool true) := hF 10 (by decide)
       have h11 : vs 11 = undef := hF 11 (by decide)
       have h12 : vs 12 = undef := hF 12 (by decide)
       have h13 : vs 13 = undef := hF 13 (by decide)
       have h14 : vs 14 = undef := hF 14 (by decide)
       have h15 : vs 15 = (.bool true) := hF 15 (by decide)
       have h16 : vs 16 = (.bool true) := hF 16 (by decide)
       have h17 : vs 17 = undef := hF 17 (by decide)
       have h18 : vs 18 = undef := hF 18 (by decide)
       have h19 : vs 19 = undef := hF 19 (by decide)
       have h20 : vs 20 = undef := hF 20 (by decide)
       have h21 : vs 21 = undef := hF 21 (by decide)
       have h22 : vs 22 = undef := hF 22 (by decide)
       have h23 : vs 23 = undef := hF 23 (by decide)
       have h24 : vs 24 = undef := hF 24 (by decide)
       have h25 : vs 25 = undef := hF 25 (by decide)
       have h26 : vs 26 = undef := hF 26 (by decide)
       have h27 : vs 27 = undef := hF 27 (by decide)
       have h28 : vs 28 = undef := hF 28 (by decide)
       have h29 : vs 29 = undef := hF 29 (by decide)
       have h30 : vs 30 = undef := hF 30 (by decide)
       have h31 : vs 31 = undef := hF 31 (by decide)
       have h32 : vs 32 = undef := hF 32 (by decide)
       have h33 : vs 33 = undef := hF 33 (by decide)
       have h34 : vs 34 = undef := hF 34 (by decide)
       have h35 : vs 35 = undef := hF 35 (by decide)
       have h36 : vs 36 = undef := hF 36 (by decide)
       have h37 : vs 37 = undef := hF 37 (by decide)
       have h38 : vs 38 = undef := hF 38 (by decide)
       have h39 : vs 39 = undef := hF 39 (by decide)
       have h40 : vs 40 = undef := hF 40 (by decide)
       have h41 : vs 41 = undef := hF 41 (by decide)
       have h42 : vs 42 = undef := hF 42 (by decide)
       have h43 : vs 43 = undef := hF 43 (by decide)
       have h44 : vs 44 = undef := hF 44 (by decide)
       have h45 : vs 45 = undef := hF 45 (by decide)
       have h46 : vs 46 = undef := hF 46 (by decide)
       have h47 : vs 47 = undef := hF 47 (by decide)
       have h48 : vs 48 = undef := hF 48 (by decide)
       have h49 : vs 49 = undef := hF 49 (by decide)
       have h50 : vs 50 = undef := hF 50 (by decide)
       have h51 : vs 51 = undef := hF 51 (by decide)
       have h52 : vs 52 = (.bool true) := hF 52 (by decide)
       clear hF
       show (_ : Exit → Act → World → Prop) Exit.normal (puts _ vs 53 _) Wyt
       simp only [puts, h0, h1, h2, h3, h4, h5, h6, h7, h8, h9, h10, h11, h12, h13, h14, h15, h16, h17, h18, h19, h20, h21, h22, h23, h24, h25, h26, h27, h28, h29, h30, h31, h32, h33, h34, h35, h36, h37, h38, h39, h40, h41, h42, h43, h44, h45, h46, h47, h48, h49, h50, h51, h52, List.getD_cons_zero, List.getD_cons_succ]
       clear h0 h1 h2 h3 h4 h5 h6 h7 h8 h9 h10 h11 h12 h13 h14 h15 h16 h17 h18 h19 h20 h21 h22 h23 h24 h25 h26 h27 h28 h29 h30 h31 h32 h33 h34 h35 h36 h37 h38 h39 h40 h41 h42 h43 h44 h45 h46 h47 h48 h49 h50 h51 h52
       subst hJ
       simp only [Act.put, List.setIfInBounds_toArray, List.set_cons_succ, List.set_cons_zero]
       clear hall
       go_wp2_with (fail)
       go_ret
       rw [HE.out]
       exact ⟨rfl, HB2.out⟩
     ·by_cases c2 : y ≤ x
      ·
       have HE : Hid (R = false) := HBAD.out (by unfold fitAt; rw [← HXY.out.1, ← HXY.out.2]; omega)
       go_wp2_with (fail)
       rw [← HQ.out, ← HW1.out]
       refine wpIn_wide (n := 5).1 (wpIn_flowM (F0 := Fence.wide) (n0 := 5) (fun _ => trivial) (fun h => by cases h) (by kernel_rfl) (by kernel_rfl) 53 53 (by kernel_rfl) (fun j => ([0, 1, 2, 3, 4, 5, 6, 7, 8, 9, 10, 11, 12, 13, 14, 15, 16, 17, 18, 19, 20, 21, 22, 23, 24, 25, 26, 27, 28, 29, 30, 31, 32, 33, 34, 35, 36, 37, 38, 39, 40, 41, 42, 43, 44, 45, 46, 47, 48, 49, 50, 51, 52] : List Nat).getD j 0) (fun j => ([20, 21, 22, 23, 24, 25, 26, 27, 28, 29, 30, 31, 32, 33, 34, 35, 36, 37, 38, 39, 40, 41, 42, 43, 44, 45, 46, 47, 48, 49, 50, 51, 52, 53, 54, 55, 56, 57, 58, 59, 60, 61, 62, 63, 64, 65, 66, 67, 68, 69, 70, 71, 72] : List Nat).getD j 0) (by kernel_rfl) (by kernel_rfl) (by kernel_rfl) (by kernel_rfl) (by kernel_rfl) (by kernel_rfl) (by kernel_rfl) (fun j zv => ([(fun zv => zv = (.pointer (some ⟨q, 0, none⟩))), (fun zv => zv = (.int .i64 x)), (fun zv => zv = (.bool false)), (fun zv => zv = (.bool false)), (fun zv => zv = (.pointer (some ⟨q, 0, none⟩))), (fun zv => zv = (.int .i64 x)), (fun zv => zv = (.pointer (some ⟨q, 1, none⟩))), (fun zv => zv = (.int .i64 y)), (fun zv => zv = (.bool true)), (fun zv => zv = (.bool true)), (fun zv => zv = (.bool true)), (fun zv => zv = undef), (fun zv => zv = undef), (fun zv => zv = undef), (fun zv => zv = undef), (fun zv => zv = (.bool true)), (fun zv => zv = (.bool true)), (fun zv => zv = undef), (fun zv => zv = undef), (fun zv => zv = undef), (fun zv => zv = undef), (fun zv => zv = undef), (fun zv => zv = undef), (fun zv => zv = undef), (fun zv => zv = undef), (fun zv => zv = undef), (fun zv => zv = undef), (fun zv => zv = undef), (fun zv => zv = undef), (fun zv => zv = undef), (fun zv => zv = undef), (fun zv => zv = undef), (fun zv => zv = undef), (fun zv => zv = undef), (fun zv => zv = undef), (fun zv => zv = undef), (fun zv => zv = undef), (fun zv => zv = undef), (fun zv => zv = undef), (fun zv => zv = undef), (fun zv => zv = undef), (fun zv => zv = undef), (fun zv => zv = undef), (fun zv => zv = undef), (fun zv => zv = undef), (fun zv => zv = undef), (fun zv => zv = undef), (fun zv => zv = undef), (fun zv => zv = undef), (fun zv => zv = undef), (fun zv => zv = undef), (fun zv => zv = undef), (fun zv => zv = (.bool true))] : List (Value → Prop)).getD j (fun _ => True) zv) (fun _ _ W => W = W1.drew) ?h0xt ?stepxt ?finxt)
       case h0xt => exact fun _ => rfl
       case stepxt =>
        intro i o a W d vs hi ho hdi hJ hf hr hF
        replace hi : i < 53 := hi
        rcases (show i = 0 ∨ i = 1 ∨ i = 2 ∨ i = 3 ∨ i = 4 ∨ i = 5 ∨ i = 6 ∨ i = 7 ∨ i = 8 ∨ i = 9 ∨ i = 10 ∨ i = 11 ∨ i = 12 ∨ i = 13 ∨ i = 14 ∨ i = 15 ∨ i = 16 ∨ i = 17 ∨ i = 18 ∨ i = 19 ∨ i = 20 ∨ i = 21 ∨ i = 22 ∨ i = 23 ∨ i = 24 ∨ i = 25 ∨ i = 26 ∨ i = 27 ∨ i = 28 ∨ i = 29 ∨ i = 30 ∨ i = 31 ∨ i = 32 ∨ i = 33 ∨ i = 34 ∨ i = 35 ∨ i = 36 ∨ i = 37 ∨ i = 38 ∨ i = 39 ∨ i = 40 ∨ i = 41 ∨ i = 42 ∨ i = 43 ∨ i = 44 ∨ i = 45 ∨ i = 46 ∨ i = 47 ∨ i = 48 ∨ i = 49 ∨ i = 50 ∨ i = 51 ∨ i = 52 by omega) with rfl | rfl | rfl | rfl | rfl | rfl | rfl | rfl | rfl | rfl | rfl | rfl | rfl | rfl | rfl | rfl | rfl | rfl | rfl | rfl | rfl | rfl | rfl | rfl | rfl | rfl | rfl | rfl | rfl | rfl | rfl | rfl | rfl | rfl | rfl | rfl | rfl | rfl | rfl | rfl | rfl | rfl | rfl | rfl | rfl | rfl | rfl | rfl | rfl | rfl | rfl | rfl | rfl
        all_goals
         replace ho := op_at ho (by rfl)
         subst ho
        ·have f6 : a.tmps.getD 6 undef = (.pointer (some ⟨q, 0, none⟩)) := hf 6 (by kernel_rfl)
         subst hJ
         exact .inl ⟨(fun k b h => by cases h), .inl ⟨0, by decide, rfl, (.pointer (some ⟨q, 0, none⟩)), W1.drew, (by simp [go_sem, Act.eval, f6]), rfl, rfl⟩⟩
        ·have d0 : a.tmps.getD 20 undef = (.pointer (some ⟨q, 0, none⟩)) := fdn (hF 0 (by decide) (hr 0 (by kernel_rfl)))
         subst hJ
         exact .inl ⟨(fun k b h => by cases h), .inl ⟨1, by decide, rfl, (.int .i64 x), W1.drew, (by simp [go_sem, Act.eval, d0, cq0]), rfl, rfl⟩⟩
        ·have d1 : a.tmps.getD 21 undef = (.int .i64 x) := fdn (hF 1 (by decide) (hr 1 (by kernel_rfl)))
         subst hJ
         exact .inl ⟨(fun k b h => by cases h), .inl ⟨2, by decide, rfl, (.bool false), W1.drew, (by simp [go_sem, Act.eval, d1, c1]), rfl, rfl⟩⟩
        ·have d2 : a.tmps.getD 22 undef = (.bool false) := fdn (hF 2 (by decide) (hr 2 (by kernel_rfl)))
         subst hJ
         exact .inl ⟨(fun k b h => by cases h), .inl ⟨3, by decide, rfl, (.bool false), W1.drew, (by simp [go_sem, Act.eval, d2]), rfl, rfl⟩⟩
        ·have d3 : a.tmps.getD 23 undef = (.bool false) := fdn (hF 3 (by decide) (hr 3 (by kernel_rfl)))
         have f6 : a.tmps.getD 6 undef = (.pointer (some ⟨q, 0, none⟩)) := hf 6 (by kernel_rfl)
         subst hJ
         exact .inl ⟨(fun k b h => by cases h; exact ⟨3, by decide, rfl, d3⟩), .inl ⟨4, by decide, rfl, (.pointer (some ⟨q, 0, none⟩)), W1.drew, (by simp [go_sem, Act.eval, d3, f6]), rfl, rfl⟩⟩
        ·have d4 : a.tmps.getD 24 undef = (.pointer (some ⟨q, 0, none⟩)) := fdn (hF 4 (by decide) (hr 4 (by kernel_rfl)))
         have d3 : a.tmps.getD 23 undef = (.bool false) := fdn (hF 3 (by decide) (hr 3 (by kernel_rfl)))
         subst hJ
         exact .inl ⟨(fun k b h => by cases h; exact ⟨3, by decide, rfl, d3⟩), .inl ⟨5, by decide, rfl, (.int .i64 x), W1.drew, (by simp [go_sem, Act.eval, d4, d3, cq0]), rfl, rfl⟩⟩
        ·have d3 : a.tmps.getD 23 undef = (.bool false) := fdn (hF 3 (by decide) (hr 3 (by kernel_rfl)))
         have f6 : a.tmps.getD 6 undef = (.pointer (some ⟨q, 0, none⟩)) := hf 6 (by kernel_rfl)
         subst hJ
         exact .inl ⟨(fun k b h => by cases h; exact ⟨3, by decide, rfl, d3⟩), .inl ⟨6, by decide, rfl, (.pointer (some ⟨q, 1, none⟩)), W1.drew, (by simp [go_sem, Act.eval, d3, f6]), rfl, rfl⟩⟩
        ·have d6 : a.tmps.getD 26 undef = (.pointer (some ⟨q, 1, none⟩)) := fdn (hF 6 (by decide) (hr 6 (by kernel_rfl)))
         have d3 : a.tmps.getD 23 undef = (.bool false) := fdn (hF 3 (by decide) (hr 3 (by kernel_rfl)))
         subst hJ
         exact .inl ⟨(fun k b h => by cases h; exact ⟨3, by decide, rfl, d3⟩), .inl ⟨7, by decide, rfl, (.int .i64 y), W1.drew, (by simp [go_sem, Act.eval, d6, d3, cq1]), rfl, rfl⟩⟩
        ·have d5 : a.tmps.getD 25 undef = (.int .i64 x) := fdn (hF 5 (by decide) (hr 5 (by kernel_rfl)))
         have d7 : a.tmps.getD 27 undef = (.int .i64 y) := fdn (hF 7 (by decide) (hr 7 (by kernel_rfl)))
         have d3 : a.tmps.getD 23 undef = (.bool false) := fdn (hF 3 (by decide) (hr 3 (by kernel_rfl)))
         subst hJ
         exact .inl ⟨(fun k b h => by cases h; exact ⟨3, by decide, rfl, d3⟩), .inl ⟨8, by decide, rfl, (.bool true), W1.drew, (by simp [go_sem, Act.eval, d5, d7, d3, c2]), rfl, rfl⟩⟩
        ·have d3 : a.tmps.getD 23 undef = (.bool false) := fdn (hF 3 (by decide) (hr 3 (by kernel_rfl)))
         have d8 : a.tmps.getD 28 undef = (.bool true) := fdn (hF 8 (by decide) (hr 8 (by kernel_rfl)))
         subst hJ
         exact .inl ⟨(fun k b h => by cases h), .inl ⟨9, by decide, rfl, (.bool true), W1.drew, (by simp [go_sem, Act.eval, d3, d8]), rfl, rfl⟩⟩
        ·have d9 : a.tmps.getD 29 undef = (.bool true) := fdn (hF 9 (by decide) (hr 9 (by kernel_rfl)))
         subst hJ
         exact .inl ⟨(fun k b h => by cases h), .inl ⟨10, by decide, rfl, (.bool true), W1.drew, (by simp [go_sem, Act.eval, d9]), rfl, rfl⟩⟩
        ·have d10 : a.tmps.getD 30 undef = (.bool true) := fdn (hF 10 (by decide) (hr 10 (by kernel_rfl)))
         subst hJ
         exact .inr ⟨10, false, 10, rfl, by decide, rfl, (nhB d10 rfl), .inl ⟨11, by decide, rfl, rfl, rfl⟩⟩
        ·have d10 : a.tmps.getD 30 undef = (.bool true) := fdn (hF 10 (by decide) (hr 10 (by kernel_rfl)))
         subst hJ
         exact .inr ⟨10, false, 10, rfl, by decide, rfl, (nhB d10 rfl), .inl ⟨12, by decide, rfl, rfl, rfl⟩⟩
        ·have d10 : a.tmps.getD 30 undef = (.bool true) := fdn (hF 10 (by decide) (hr 10 (by kernel_rfl)))
         subst hJ
         exact .inr ⟨10, false, 10, rfl, by decide, rfl, (nhB d10 rfl), .inl ⟨13, by decide, rfl, rfl, rfl⟩⟩
        ·have d10 : a.tmps.getD 30 undef = (.bool true) := fdn (hF 10 (by decide) (hr 10 (by kernel_rfl)))
         subst hJ
         exact .inr ⟨10, false, 10, rfl, by decide, rfl, (nhB d10 rfl), .inl ⟨14, by decide, rfl, rfl, rfl⟩⟩
        ·have d10 : a.tmps.getD 30 undef = (.bool true) := fdn (hF 10 (by decide) (hr 10 (by kernel_rfl)))
         subst hJ
         exact .inl ⟨(fun k b h => by cases h), .inl ⟨15, by decide, rfl, (.bool true), W1.drew, (by simp [go_sem, Act.eval, d10]), rfl, rfl⟩⟩
        ·have d15 : a.tmps.getD 35 undef = (.bool true) := fdn (hF 15 (by decide) (hr 15 (by kernel_rfl)))
         subst hJ
         exact .inl ⟨(fun k b h => by cases h), .inl ⟨16, by decide, rfl, (.bool true), W1.drew, (by simp [go_sem, Act.eval, d15]), rfl, rfl⟩⟩
        ·have d16 : a.tmps.getD 36 undef = (.bool true) := fdn (hF 16 (by decide) (hr 16 (by kernel_rfl)))
         subst hJ
         exact .inr ⟨16, false, 16, rfl, by decide, rfl, (nhB d16 rfl), .inl ⟨17, by decide, rfl, rfl, rfl⟩⟩
        ·have d16 : a.tmps.getD 36 undef = (.bool true) := fdn (hF 16 (by decide) (hr 16 (by kernel_rfl)))
         subst hJ
         exact .inr ⟨16, false, 16, rfl, by decide, rfl, (nhB d16 rfl), .inl ⟨18, by decide, rfl, rfl, rfl⟩⟩
        ·have d16 : a.tmps.getD 36 undef = (.bool true) := fdn (hF 16 (by decide) (hr 16 (by kernel_rfl)))
         subst hJ
         exact .inr ⟨16, false, 16, rfl, by decide, rfl, (nhB d16 rfl), .inl ⟨19, by decide, rfl, rfl, rfl⟩⟩
        ·have d19 : a.tmps.getD 39 undef = undef := fdn (hF 19 (by decide) (hr 19 (by kernel_rfl)))
         subst hJ
         exact .inr ⟨19, true, 19, rfl, by decide, rfl, (nhU d19), .inl ⟨20, by decide, rfl, rfl, rfl⟩⟩
        ·have d19 : a.tmps.getD 39 undef = undef := fdn (hF 19 (by decide) (hr 19 (by kernel_rfl)))
         subst hJ
         exact .inr ⟨19, true, 19, rfl, by decide, rfl, (nhU d19), .inl ⟨21, by decide, rfl, rfl, rfl⟩⟩
        ·have d19 : a.tmps.getD 39 undef = undef := fdn (hF 19 (by decide) (hr 19 (by kernel_rfl)))
         subst hJ
         exact .inr ⟨19, true, 19, rfl, by decide, rfl, (nhU d19), .inl ⟨22, by decide, rfl, rfl, rfl⟩⟩
        ·have d19 : a.tmps.getD 39 undef = undef := fdn (hF 19 (by decide) (hr 19 (by kernel_rfl)))
         subst hJ
         exact .inr ⟨19, true, 19, rfl, by decide, rfl, (nhU d19), .inl ⟨23, by decide, rfl, rfl, rfl⟩⟩
        ·have d19 : a.tmps.getD 39 undef = undef := fdn (hF 19 (by decide) (hr 19 (by kernel_rfl)))
         subst hJ
         exact .inr ⟨19, true, 19, rfl, by decide, rfl, (nhU d19), .inl ⟨24, by decide, rfl, rfl, rfl⟩⟩
        ·have d19 : a.tmps.getD 39 undef = undef := fdn (hF 19 (by decide) (hr 19 (by kernel_rfl)))
         subst hJ
         exact .inr ⟨19, true, 19, rfl, by decide, rfl, (nhU d19), .inl ⟨25, by decide, rfl, rfl, rfl⟩⟩
        ·have d19 : a.tmps.getD 39 undef = undef := fdn (hF 19 (by decide) (hr 19 (by kernel_rfl)))
         subst hJ
         exact .inr ⟨19, true, 19, rfl, by decide, rfl, (nhU d19), .inl ⟨26, by decide, rfl, rfl, rfl⟩⟩
        ·have d19 : a.tmps.getD 39 undef = undef := fdn (hF 19 (by decide) (hr 19 (by kernel_rfl)))
         subst hJ
         exact .inr ⟨19, true, 19, rfl, by decide, rfl, (nhU d19), .inl ⟨27, by decide, rfl, rfl, rfl⟩⟩
        ·have d19 : a.tmps.getD 39 undef = undef := fdn (hF 19 (by decide) (hr 19 (by kernel_rfl)))
         subst hJ
         exact .inr ⟨19, true, 19, rfl, by decide, rfl, (nhU d19), .inl ⟨28, by decide, rfl, rfl, rfl⟩⟩
        ·have d19 : a.tmps.getD 39 undef = undef := fdn (hF 19 (by decide) (hr 19 (by kernel_rfl)))
         subst hJ
         exact .inr ⟨19, true, 19, rfl, by decide, rfl, (nhU d19), .inl ⟨29, by decide, rfl, rfl, rfl⟩⟩
        ·have d29 : a.tmps.getD 49 undef = undef := fdn (hF 29 (by decide) (hr 29 (by kernel_rfl)))
         subst hJ
         exact .inr ⟨29, false, 29, rfl, by decide, rfl, (nhU d29), .inl ⟨30, by decide, rfl, rfl, rfl⟩⟩
        ·have d29 : a.tmps.getD 49 undef = undef := fdn (hF 29 (by decide) (hr 29 (by kernel_rfl)))
         subst hJ
         exact .inr ⟨29, false, 29, rfl, by decide, rfl, (nhU d29), .inl ⟨31, by decide, rfl, rfl, rfl⟩⟩
        ·have d29 : a.tmps.getD 49 undef = undef := fdn (hF 29 (by decide) (hr 29 (by kernel_rfl)))
         subst hJ
         exact .inr ⟨29, false, 29, rfl, by decide, rfl, (nhU d29), .inl ⟨32, by decide, rfl, rfl, rfl⟩⟩
        ·have d29 : a.tmps.getD 49 undef = undef := fdn (hF 29 (by decide) (hr 29 (by kernel_rfl)))
         subst hJ
         exact .inr ⟨29, false, 29, rfl, by decide, rfl, (nhU d29), .inl ⟨33, by decide, rfl, rfl, rfl⟩⟩
        ·have d29 : a.tmps.getD 49 undef = undef := fdn (hF 29 (by decide) (hr 29 (by kernel_rfl)))
         subst hJ
         exact .inr ⟨29, false, 29, rfl, by decide, rfl, (nhU d29), .inl ⟨34, by decide, rfl, rfl, rfl⟩⟩
        ·have d29 : a.tmps.getD 49 undef = undef := fdn (hF 29 (by decide) (hr 29 (by kernel_rfl)))
         subst hJ
         exact .inr ⟨29, false, 29, rfl, by decide, rfl, (nhU d29), .inl ⟨35, by decide, rfl, rfl, rfl⟩⟩
        ·have d29 : a.tmps.getD 49 undef = undef := fdn (hF 29 (by decide) (hr 29 (by kernel_rfl)))
         subst hJ
         exact .inr ⟨29, false, 29, rfl, by decide, rfl, (nhU d29), .inl ⟨36, by decide, rfl, rfl, rfl⟩⟩
        ·have d29 : a.tmps.getD 49 undef = undef := fdn (hF 29 (by decide) (hr 29 (by kernel_rfl)))
         subst hJ
         exact .inr ⟨29, false, 29, rfl, by decide, rfl, (nhU d29), .inl ⟨37, by decide, rfl, rfl, rfl⟩⟩
        ·have d29 : a.tmps.getD 49 undef = undef := fdn (hF 29 (by decide) (hr 29 (by kernel_rfl)))
         subst hJ
         exact .inr ⟨29, false, 29, rfl, by decide, rfl, (nhU d29), .inl ⟨38, by decide, rfl, rfl, rfl⟩⟩
        ·have d29 : a.tmps.getD 49 undef = undef := fdn (hF 29 (by decide) (hr 29 (by kernel_rfl)))
         subst hJ
         exact .inr ⟨29, false, 29, rfl, by decide, rfl, (nhU d29), .inl ⟨39, by decide, rfl, rfl, rfl⟩⟩
        ·have d39 : a.tmps.getD 59 undef = undef := fdn (hF 39 (by decide) (hr 39 (by kernel_rfl)))
         subst hJ
         exact .inr ⟨39, true, 39, rfl, by decide, rfl, (nhU d39), .inl ⟨40, by decide, rfl, rfl, rfl⟩⟩
        ·have d39 : a.tmps.getD 59 undef = undef := fdn (hF 39 (by decide) (hr 39 (by kernel_rfl)))
         subst hJ
         exact .inr ⟨39, true, 39, rfl, by decide, rfl, (nhU d39), .inl ⟨41, by decide, rfl, rfl, rfl⟩⟩
        ·have d39 : a.tmps.getD 59 undef = undef := fdn (hF 39 (by decide) (hr 39 (by kernel_rfl)))
         subst hJ
         exact .inr ⟨39, true, 39, rfl, by decide, rfl, (nhU d39), .inl ⟨42, by decide, rfl, rfl, rfl⟩⟩
        ·have d39 : a.tmps.getD 59 undef = undef := fdn (hF 39 (by decide) (hr 39 (by kernel_rfl)))
         subst hJ
         exact .inr ⟨39, true, 39, rfl, by decide, rfl, (nhU d39), .inl ⟨43, by decide, rfl, rfl, rfl⟩⟩
        ·have d39 : a.tmps.getD 59 undef = undef := fdn (hF 39 (by decide) (hr 39 (by kernel_rfl)))
         subst hJ
         exact .inr ⟨39, true, 39, rfl, by decide, rfl, (nhU d39), .inl ⟨44, by decide, rfl, rfl, rfl⟩⟩
        ·have d39 : a.tmps.getD 59 undef = undef := fdn (hF 39 (by decide) (hr 39 (by kernel_rfl)))
         subst hJ
         exact .inr ⟨39, true, 39, rfl, by decide, rfl, (nhU d39), .inl ⟨45, by decide, rfl, rfl, rfl⟩⟩
        ·have d39 : a.tmps.getD 59 undef = undef := fdn (hF 39 (by decide) (hr 39 (by kernel_rfl)))
         subst hJ
         exact .inr ⟨39, true, 39, rfl, by decide, rfl, (nhU d39), .inl ⟨46, by decide, rfl, rfl, rfl⟩⟩
        ·have d39 : a.tmps.getD 59 undef = undef := fdn (hF 39 (by decide) (hr 39 (by kernel_rfl)))
         subst hJ
         exact .inr ⟨39, true, 39, rfl, by decide, rfl, (nhU d39), .inl ⟨47, by decide, rfl, rfl, rfl⟩⟩
        ·have d39 : a.tmps.getD 59 undef = undef := fdn (hF 39 (by decide) (hr 39 (by kernel_rfl)))
         subst hJ
         exact .inr ⟨39, true, 39, rfl, by decide, rfl, (nhU d39), .inl ⟨48, by decide, rfl, rfl, rfl⟩⟩
        ·have d29 : a.tmps.getD 49 undef = undef := fdn (hF 29 (by decide) (hr 29 (by kernel_rfl)))
         subst hJ
         exact .inr ⟨29, false, 29, rfl, by decide, rfl, (nhU d29), .inl ⟨49, by decide, rfl, rfl, rfl⟩⟩
        ·have d19 : a.tmps.getD 39 undef = undef := fdn (hF 19 (by decide) (hr 19 (by kernel_rfl)))
         subst hJ
         exact .inr ⟨19, true, 19, rfl, by decide, rfl, (nhU d19), .inl ⟨50, by decide, rfl, rfl, rfl⟩⟩
        ·have d16 : a.tmps.getD 36 undef = (.bool true) := fdn (hF 16 (by decide) (hr 16 (by kernel_rfl)))
         subst hJ
         exact .inr ⟨16, false, 16, rfl, by decide, rfl, (nhB d16 rfl), .inl ⟨51, by decide, rfl, rfl, rfl⟩⟩
        ·have d16 : a.tmps.getD 36 undef = (.bool true) := fdn (hF 16 (by decide) (hr 16 (by kernel_rfl)))
         subst hJ
         exact .inl ⟨(fun k b h => by cases h), .inl ⟨52, by decide, rfl, (.bool true), W1.drew, (by simp [go_sem, Act.eval, d16]), rfl, rfl⟩⟩
       case finxt =>
        intro d vs Wxt hall hJ hF
        have h0 : vs 0 = (.pointer (some ⟨q, 0, none⟩)) := hF 0 (by decide)
        have h1 : vs 1 = (.int .i64 x) := hF 1 (by decide)
        have h2 : vs 2 = (.bool false) := hF 2 (by decide)
        have h3 : vs 3 = (.bool false) := hF 3 (by decide)
        have h4 : vs 4 = (.pointer (some ⟨q, 0, none⟩)) := hF 4 (by decide)
        have h5 : vs 5 = (.int .i64 x) := hF 5 (by decide)
        have h6 : vs 6 = (.pointer (some ⟨q, 1, none⟩)) := hF 6 (by decide)
        have h7 : vs 7 = (.int .i64 y) := hF 7 (by decide)
        have h8 : vs 8 = (.bool true) := hF 8 (by decide)
        have h9 : vs 9 = (.bool true) := hF 9 (by decide)
        have h10 : vs 10 = (.bool true) := hF 10 (by decide)
        have h11 : vs 11 = undef := hF 11 (by decide)
        have h12 : vs 12 = undef := hF 12 (by decide)
        have h13 : vs 13 = undef := hF 13 (by decide)
        have h14 : vs 14 = undef := hF 14 (by decide)
        have h15 : vs 15 = (.bool true) := hF 15 (by decide)
        have h16 : vs 16 = (.bool true) := hF 16 (by decide)
        have h17 : vs 17 = undef := hF 17 (by decide)
        have h18 : vs 18 = undef := hF 18 (by decide)
        have h19 : vs 19 = undef := hF 19 (by decide)
        have h20 : vs 20 = undef := hF 20 (by decide)
        have h21 : vs 21 = undef := hF 21 (by decide)
        have h22 : vs 22 = undef := hF 22 (by decide)
        have h23 : vs 23 = undef := hF 23 (by decide)
        have h24 : vs 24 = undef := hF 24 (by decide)
        have h25 : vs 25 = undef := hF 25 (by decide)
        have h26 : vs 26 = undef := hF 26 (by decide)
        have h27 : vs 27 = undef := hF 27 (by decide)
        have h28 : vs 28 = undef := hF 28 (by decide)
        have h29 : vs 29 = undef := hF 29 (by decide)
        have h30 : vs 30 = undef := hF 30 (by decide)
        have h31 : vs 31 = undef := hF 31 (by decide)
        have h32 : vs 32 = undef := hF 32 (by decide)
        have h33 : vs 33 = undef := hF 33 (by decide)
        have h34 : vs 34 = undef := hF 34 (by decide)
        have h35 : vs 35 = undef := hF 35 (by decide)
        have h36 : vs 36 = undef := hF 36 (by decide)
        have h37 : vs 37 = undef := hF 37 (by decide)
        have h38 : vs 38 = undef := hF 38 (by decide)
        have h39 : vs 39 = undef := hF 39 (by decide)
        have h40 : vs 40 = undef := hF 40 (by decide)
        have h41 : vs 41 = undef := hF 41 (by decide)
        have h42 : vs 42 = undef := hF 42 (by decide)
        have h43 : vs 43 = undef := hF 43 (by decide)
        have h44 : vs 44 = undef := hF 44 (by decide)
        have h45 : vs 45 = undef := hF 45 (by decide)
        have h46 : vs 46 = undef := hF 46 (by decide)
        have h47 : vs 47 = undef := hF 47 (by decide)
        have h48 : vs 48 = undef := hF 48 (by decide)
        have h49 : vs 49 = undef := hF 49 (by decide)
        have h50 : vs 50 = undef := hF 50 (by decide)
        have h51 : vs 51 = undef := hF 51 (by decide)
        have h52 : vs 52 = (.bool true) := hF 52 (by decide)
        clear hF
        show (_ : Exit → Act → World → Prop) Exit.normal (puts _ vs 53 _) Wxt
        simp only [puts, h0, h1, h2, h3, h4, h5, h6, h7, h8, h9, h10, h11, h12, h13, h14, h15, h16, h17, h18, h19, h20, h21, h22, h23, h24, h25, h26, h27, h28, h29, h30, h31, h32, h33, h34, h35, h36, h37, h38, h39, h40, h41, h42, h43, h44, h45, h46, h47, h48, h49, h50, h51, h52, List.getD_cons_zero, List.getD_cons_succ]
        clear h0 h1 h2 h3 h4 h5 h6 h7 h8 h9 h10 h11 h12 h13 h14 h15 h16 h17 h18 h19 h20 h21 h22 h23 h24 h25 h26 h27 h28 h29 h30 h31 h32 h33 h34 h35 h36 h37 h38 h39 h40 h41 h42 h43 h44 h45 h46 h47 h48 h49 h50 h51 h52
        subst hJ
        simp only [Act.put, List.setIfInBounds_toArray, List.set_cons_succ, List.set_cons_zero]
        clear hall
        go_wp2_with (fail)
        go_ret
        rw [HE.out]
        exact ⟨rfl, HB2.out⟩
      ·by_cases c3 : n ≤ y
       ·
        have HE : Hid (R = false) := HBAD.out (by unfold fitAt; rw [← HXY.out.1, ← HXY.out.2]; omega)
        go_wp2_with (fail)
        rw [← HQ.out, ← HW1.out]
        refine wpIn_wide (n := 5).1 (wpIn_flowM (F0 := Fence.wide) (n0 := 5) (fun _ => trivial) (fun h => by cases h) (by kernel_rfl) (by kernel_rfl) 53 53 (by kernel_rfl) (fun j => ([0, 1, 2, 3, 4, 5, 6, 7, 8, 9, 10, 11, 12, 13, 14, 15, 16, 17, 18, 19, 20, 21, 22, 23, 24, 25, 26, 27, 28, 29, 30, 31, 32, 33, 34, 35, 36, 37, 38, 39, 40, 41, 42, 43, 44, 45, 46, 47, 48, 49, 50, 51, 52] : List Nat).getD j 0) (fun j => ([20, 21, 22, 23, 24, 25, 26, 27, 28, 29, 30, 31, 32, 33, 34, 35, 36, 37, 38, 39, 40, 41, 42, 43, 44, 45, 46, 47, 48, 49, 50, 51, 52, 53, 54, 55, 56, 57, 58, 59, 60, 61, 62, 63, 64, 65, 66, 67, 68, 69, 70, 71, 72] : List Nat).getD j 0) (by kernel_rfl) (by kernel_rfl) (by kernel_rfl) (by kernel_rfl) (by kernel_rfl) (by kernel_rfl) (by kernel_rfl) (fun j zv => ([(fun zv => zv = (.pointer (some ⟨q, 0, none⟩))), (fun zv => zv = (.int .i64 x)), (fun zv => zv = (.bool false)), (fun zv => zv = (.bool false)), (fun zv => zv = (.pointer (some ⟨q, 0, none⟩))), (fun zv => zv = (.int .i64 x)), (fun zv => zv = (.pointer (some ⟨q, 1, none⟩))), (fun zv => zv = (.int .i64 y)), (fun zv => zv = (.bool false)), (fun zv => zv = (.bool false)), (fun zv => zv = (.bool false)), (fun zv => zv = (.pointer (some ⟨q, 1, none⟩))), (fun zv => zv = (.int .i64 y)), (fun zv => zv = (.int .i64 n)), (fun zv => zv = (.bool true)), (fun zv => zv = (.bool true)), (fun zv => zv = (.bool true)), (fun zv => zv = undef), (fun zv => zv = undef), (fun zv => zv = undef), (fun zv => zv = undef), (fun zv => zv = undef), (fun zv => zv = undef), (fun zv => zv = undef), (fun zv => zv = undef), (fun zv => zv = undef), (fun zv => zv = undef), (fun zv => zv = undef), (fun zv => zv = undef), (fun zv => zv = undef), (fun zv => zv = undef), (fun zv => zv = undef), (fun zv => zv = undef), (fun zv => zv = undef), (fun zv => zv = undef), (fun zv => zv = undef), (fun zv => zv = undef), (fun zv => zv = undef), (fun zv => zv = undef), (fun zv => zv = undef), (fun zv => zv = undef), (fun zv => zv = undef), (fun zv => zv = undef), (fun zv => zv = undef), (fun zv => zv = undef), (fun zv => zv = undef), (fun zv => zv = undef), (fun zv => zv = undef), (fun zv => zv = undef), (fun zv => zv = undef), (fun zv => zv = undef), (fun zv => zv = undef), (fun zv => zv = (.bool true))] : List (Value → Prop)).getD j (fun _ => True) zv) (fun _ _ W => W = W1.drew) ?h0wt ?stepwt ?finwt)
        case h0wt => exact fun _ => rfl
        case stepwt =>
         intro i o a W d vs hi ho hdi hJ hf hr hF
         replace hi : i < 53 := hi
         rcases (show i = 0 ∨ i = 1 ∨ i = 2 ∨ i = 3 ∨ i = 4 ∨ i = 5 ∨ i = 6 ∨ i = 7 ∨ i = 8 ∨ i = 9 ∨ i = 10 ∨ i = 11 ∨ i = 12 ∨ i = 13 ∨ i = 14 ∨ i = 15 ∨ i = 16 ∨ i = 17 ∨ i = 18 ∨ i = 19 ∨ i = 20 ∨ i = 21 ∨ i = 22 ∨ i = 23 ∨ i = 24 ∨ i = 25 ∨ i = 26 ∨ i = 27 ∨ i = 28 ∨ i = 29 ∨ i = 30 ∨ i = 31 ∨ i = 32 ∨ i = 33 ∨ i = 34 ∨ i = 35 ∨ i = 36 ∨ i = 37 ∨ i = 38 ∨ i = 39 ∨ i = 40 ∨ i = 41 ∨ i = 42 ∨ i = 43 ∨ i = 44 ∨ i = 45 ∨ i = 46 ∨ i = 47 ∨ i = 48 ∨ i = 49 ∨ i = 50 ∨ i = 51 ∨ i = 52 by omega) with rfl | rfl | rfl | rfl | rfl | rfl | rfl | rfl | rfl | rfl | rfl | rfl | rfl | rfl | rfl | rfl | rfl | rfl | rfl | rfl | rfl | rfl | rfl | rfl | rfl | rfl | rfl | rfl | rfl | rfl | rfl | rfl | rfl | rfl | rfl | rfl | rfl | rfl | rfl | rfl | rfl | rfl | rfl | rfl | rfl | rfl | rfl | rfl | rfl | rfl | rfl | rfl | rfl
         all_goals
          replace ho := op_at ho (by rfl)
          subst ho
         ·have f6 : a.tmps.getD 6 undef = (.pointer (some ⟨q, 0, none⟩)) := hf 6 (by kernel_rfl)
          subst hJ
          exact .inl ⟨(fun k b h => by cases h), .inl ⟨0, by decide, rfl, (.pointer (some ⟨q, 0, none⟩)), W1.drew, (by simp [go_sem, Act.eval, f6]), rfl, rfl⟩⟩
         ·have d0 : a.tmps.getD 20 undef = (.pointer (some ⟨q, 0, none⟩)) := fdn (hF 0 (by decide) (hr 0 (by kernel_rfl)))
          subst hJ
          exact .inl ⟨(fun k b h => by cases h), .inl ⟨1, by decide, rfl, (.int .i64 x), W1.drew, (by simp [go_sem, Act.eval, d0, cq0]), rfl, rfl⟩⟩
         ·have d1 : a.tmps.getD 21 undef = (.int .i64 x) := fdn (hF 1 (by decide) (hr 1 (by kernel_rfl)))
          subst hJ
          exact .inl ⟨(fun k b h => by cases h), .inl ⟨2, by decide, rfl, (.bool false), W1.drew, (by simp [go_sem, Act.eval, d1, c1]), rfl, rfl⟩⟩
         ·have d2 : a.tmps.getD 22 undef = (.bool false) := fdn (hF 2 (by decide) (hr 2 (by kernel_rfl)))
          subst hJ
          exact .inl ⟨(fun k b h => by cases h), .inl ⟨3, by decide, rfl, (.bool false), W1.drew, (by simp [go_sem, Act.eval, d2]), rfl, rfl⟩⟩
         ·have d3 : a.tmps.getD 23 undef = (.bool false) := fdn (hF 3 (by decide) (hr 3 (by kernel_rfl)))
          have f6 : a.tmps.getD 6 undef = (.pointer (some ⟨q, 0, none⟩)) := hf 6 (by kernel_rfl)
          subst hJ
          exact .inl ⟨(fun k b h => by cases h; exact ⟨3, by decide, rfl, d3⟩), .inl ⟨4, by decide, rfl, (.pointer (some ⟨q, 0, none⟩)), W1.drew, (by simp [go_sem, Act.eval, d3, f6]), rfl, rfl⟩⟩
         ·have d4 : a.tmps.getD 24 undef = (.pointer (some ⟨q, 0, none⟩)) := fdn (hF 4 (by decide) (hr 4 (by kernel_rfl)))
          have d3 : a.tmps.getD 23 undef = (.bool false) := fdn (hF 3 (by decide) (hr 3 (by kernel_rfl)))
          subst hJ
          exact .inl ⟨(fun k b h => by cases h; exact ⟨3, by decide, rfl, d3⟩), .inl ⟨5, by decide, rfl, (.int .i64 x), W1.drew, (by simp [go_sem, Act.eval, d4, d3, cq0]), rfl, rfl⟩⟩
         ·have d3 : a.tmps.getD 23 undef = (.bool false) := fdn (hF 3 (by decide) (hr 3 (by kernel_rfl)))
          have f6 : a.tmps.getD 6 undef = (.pointer (some ⟨q, 0, none⟩)) := hf 6 (by kernel_rfl)
          subst hJ
          exact .inl ⟨(fun k b h => by cases h; exact ⟨3, by decide, rfl, d3⟩), .inl ⟨6, by decide, rfl, (.pointer (some ⟨q, 1, none⟩)), W1.drew, (by simp [go_sem, Act.eval, d3, f6]), rfl, rfl⟩⟩
         ·have d6 : a.tmps.getD 26 undef = (.pointer (some ⟨q, 1, none⟩)) := fdn (hF 6 (by decide) (hr 6 (by kernel_rfl)))
          have d3 : a.tmps.getD 23 undef = (.bool false) := fdn (hF 3 (by decide) (hr 3 (by kernel_rfl)))
          subst hJ
          exact .inl ⟨(fun k b h => by cases h; exact ⟨3, by decide, rfl, d3⟩), .inl ⟨7, by decide, rfl, (.int .i64 y), W1.drew, (by simp [go_sem, Act.eval, d6, d3, cq1]), rfl, rfl⟩⟩
         ·have d5 : a.tmps.getD 25 undef = (.int .i64 x) := fdn (hF 5 (by decide) (hr 5 (by kernel_rfl)))
          have d7 : a.tmps.getD 27 undef = (.int .i64 y) := fdn (hF 7 (by decide) (hr 7 (by kernel_rfl)))
          have d3 : a.tmps.getD 23 undef = (.bool false) := fdn (hF 3 (by decide) (hr 3 (by kernel_rfl)))
          subst hJ
          exact .inl ⟨(fun k b h => by cases h; exact ⟨3, by decide, rfl, d3⟩), .inl ⟨8, by decide, rfl, (.bool false), W1.drew, (by simp [go_sem, Act.eval, d5, d7, d3, c2]), rfl, rfl⟩⟩
         ·have d3 : a.tmps.getD 23 undef = (.bool false) := fdn (hF 3 (by decide) (hr 3 (by kernel_rfl)))
          have d8 : a.tmps.getD 28 undef = (.bool false) := fdn (hF 8 (by decide) (hr 8 (by kernel_rfl)))
          subst hJ
          exact .inl ⟨(fun k b h => by cases h), .inl ⟨9, by decide, rfl, (.bool false), W1.drew, (by simp [go_sem, Act.eval, d3, d8]), rfl, rfl⟩⟩
         ·have d9 : a.tmps.getD 29 undef = (.bool false) := fdn (hF 9 (by decide) (hr 9 (by kernel_rfl)))
          subst hJ
          exact .inl ⟨(fun k b h => by cases h), .inl ⟨10, by decide, rfl, (.bool false), W1.drew, (by simp [go_sem, Act.eval, d9]), rfl, rfl⟩⟩
         ·have d10 : a.tmps.getD 30 undef = (.bool false) := fdn (hF 10 (by decide) (hr 10 (by kernel_rfl)))
          have f6 : a.tmps.getD 6 undef = (.pointer (some ⟨q, 0, none⟩)) := hf 6 (by kernel_rfl)
          subst hJ
          exact .inl ⟨(fun k b h => by cases h; exact ⟨10, by decide, rfl, d10⟩), .inl ⟨11, by decide, rfl, (.pointer (some ⟨q, 1, none⟩)), W1.drew, (by simp [go_sem, Act.eval, d10, f6]), rfl, rfl⟩⟩
         ·have d11 : a.tmps.getD 31 undef = (.pointer (some ⟨q, 1, none⟩)) := fdn (hF 11 (by decide) (hr 11 (by kernel_rfl)))
          have d10 : a.tmps.getD 30 undef = (.bool false) := fdn (hF 10 (by decide) (hr 10 (by kernel_rfl)))
          subst hJ
          exact .inl ⟨(fun k b h => by cases h; exact ⟨10, by decide, rfl, d10⟩), .inl ⟨12, by decide, rfl, (.int .i64 y), W1.drew, (by simp [go_sem, Act.eval, d11, d10, cq1]), rfl, rfl⟩⟩
         ·have d10 : a.tmps.getD 30 undef = (.bool false) := fdn (hF 10 (by decide) (hr 10 (by kernel_rfl)))
          have f0 : a.tmps.getD 0 undef = (.int .i64 n) := hf 0 (by kernel_rfl)
          subst hJ
          exact .inl ⟨(fun k b h => by cases h; exact ⟨10, by decide, rfl, d10⟩), .inl ⟨13, by decide, rfl, (.int .i64 n), W1.drew, (by simp [go_sem, Act.eval, d10, f0]), rfl, rfl⟩⟩
         ·have d12 : a.tmps.getD 32 undef = (.int .i64 y) := fdn (hF 12 (by decide) (hr 12 (by kernel_rfl)))
          have d13 : a.tmps.getD 33 undef = (.int .i64 n) := fdn (hF 13 (by decide) (hr 13 (by kernel_rfl)))
          have d10 : a.tmps.getD 30 undef = (.bool false) := fdn (hF 10 (by decide) (hr 10 (by kernel_rfl)))
          subst hJ
          exact .inl ⟨(fun k b h => by cases h; exact ⟨10, by decide, rfl, d10⟩), .inl ⟨14, by decide, rfl, (.bool true), W1.drew, (by simp [go_sem, Act.eval, d12, d13, d10, c3]), rfl, rfl⟩⟩
         ·have d10 : a.tmps.getD 30 undef = (.bool false) := fdn (hF 10 (by decide) (hr 10 (by kernel_rfl)))
          have d14 : a.tmps.getD 34 undef = (.bool true) := fdn (hF 14 (by decide) (hr 14 (by kernel_rfl)))
          subst hJ
          exact .inl ⟨(fun k b h => by cases h), .inl ⟨15, by decide, rfl, (.bool true), W1.drew, (by simp [go_sem, Act.eval, d10, d14]), rfl, rfl⟩⟩
         ·have d15 : a.tmps.getD 35 undef = (.bool true) := fdn (hF 15 (by decide) (hr 15 (by kernel_rfl)))
          subst hJ
          exact .inl ⟨(fun k b h => by cases h), .inl ⟨16, by decide, rfl, (.bool true), W1.drew, (by simp [go_sem, Act.eval, d15]), rfl, rfl⟩⟩
         ·have d16 : a.tmps.getD 36 undef = (.bool true) := fdn (hF 16 (by decide) (hr 16 (by kernel_rfl)))
          subst hJ
          exact .inr ⟨16, false, 16, rfl, by decide, rfl, (nhB d16 rfl), .inl ⟨17, by decide, rfl, rfl, rfl⟩⟩
         ·have d16 : a.tmps.getD 36 undef = (.bool true) := fdn (hF 16 (by decide) (hr 16 (by kernel_rfl)))
          subst hJ
          exact .inr ⟨16, false, 16, rfl, by decide, rfl, (nhB d16 rfl), .inl ⟨18, by decide, rfl, rfl, rfl⟩⟩
         ·have d16 : a.tmps.getD 36 undef = (.bool true) := fdn (hF 16 (by decide) (hr 16 (by kernel_rfl)))
          subst hJ
          exact .inr ⟨16, false, 16, rfl, by decide, rfl, (nhB d16 rfl), .inl ⟨19, by decide, rfl, rfl, rfl⟩⟩
         ·have d19 : a.tmps.getD 39 undef = undef := fdn (hF 19 (by decide) (hr 19 (by kernel_rfl)))
          subst hJ
          exact .inr ⟨19, true, 19, rfl, by decide, rfl, (nhU d19), .inl ⟨20, by decide, rfl, rfl, rfl⟩⟩
         ·have d19 : a.tmps.getD 39 undef = undef := fdn (hF 19 (by decide) (hr 19 (by kernel_rfl)))
          subst hJ
          exact .inr ⟨19, true, 19, rfl, by decide, rfl, (nhU d19), .inl ⟨21, by decide, rfl, rfl, rfl⟩⟩
         ·have d19 : a.tmps.getD 39 undef = undef := fdn (hF 19 (by decide) (hr 19 (by kernel_rfl)))
          subst hJ
          exact .inr ⟨19, true, 19, rfl, by decide, rfl, (nhU d19), .inl ⟨22, by decide, rfl, rfl, rfl⟩⟩
         ·have d19 : a.tmps.getD 39 undef = undef := fdn (hF 19 (by decide) (hr 19 (by kernel_rfl)))
          subst hJ
          exact .inr ⟨19, true, 19, rfl, by decide, rfl, (nhU d19), .inl ⟨23, by decide, rfl, rfl, rfl⟩⟩
         ·have d19 : a.tmps.getD 39 undef = undef := fdn (hF 19 (by decide) (hr 19 (by kernel_rfl)))
          subst hJ
          exact .inr ⟨19, true, 19, rfl, by decide, rfl, (nhU d19), .inl ⟨24, by decide, rfl, rfl, rfl⟩⟩
         ·have d19 : a.tmps.getD 39 undef = undef := fdn (hF 19 (by decide) (hr 19 (by kernel_rfl)))
          subst hJ
          exact .inr ⟨19, true, 19, rfl, by decide, rfl, (nhU d19), .inl ⟨25, by decide, rfl, rfl, rfl⟩⟩
         ·have d19 : a.tmps.getD 39 undef = undef := fdn (hF 19 (by decide) (hr 19 (by kernel_rfl)))
          subst hJ
          exact .inr ⟨19, true, 19, rfl, by decide, rfl, (nhU d19), .inl ⟨26, by decide, rfl, rfl, rfl⟩⟩
         ·have d19 : a.tmps.getD 39 undef = undef := fdn (hF 19 (by decide) (hr 19 (by kernel_rfl)))
          subst hJ
          exact .inr ⟨19, true, 19, rfl, by decide, rfl, (nhU d19), .inl ⟨27, by decide, rfl, rfl, rfl⟩⟩
         ·have d19 : a.tmps.getD 39 undef = undef := fdn (hF 19 (by decide) (hr 19 (by kernel_rfl)))
          subst hJ
          exact .inr ⟨19, true, 19, rfl, by decide, rfl, (nhU d19), .inl ⟨28, by decide, rfl, rfl, rfl⟩⟩
         ·have d19 : a.tmps.getD 39 undef = undef := fdn (hF 19 (by decide) (hr 19 (by kernel_rfl)))
          subst hJ
          exact .inr ⟨19, true, 19, rfl, by decide, rfl, (nhU d19), .inl ⟨29, by decide, rfl, rfl, rfl⟩⟩
         ·have d29 : a.tmps.getD 49 undef = undef := fdn (hF 29 (by decide) (hr 29 (by kernel_rfl)))
          subst hJ
          exact .inr ⟨29, false, 29, rfl, by decide, rfl, (nhU d29), .inl ⟨30, by decide, rfl, rfl, rfl⟩⟩
         ·have d29 : a.tmps.getD 49 undef = undef := fdn (hF 29 (by decide) (hr 29 (by kernel_rfl)))
          subst hJ
          exact .inr ⟨29, false, 29, rfl, by decide, rfl, (nhU d29), .inl ⟨31, by decide, rfl, rfl, rfl⟩⟩
         ·have d29 : a.tmps.getD 49 undef = undef := fdn (hF 29 (by decide) (hr 29 (by kernel_rfl)))
          subst hJ
          exact .inr ⟨29, false, 29, rfl, by decide, rfl, (nhU d29), .inl ⟨32, by decide, rfl, rfl, rfl⟩⟩
         ·have d29 : a.tmps.getD 49 undef = undef := fdn (hF 29 (by decide) (hr 29 (by kernel_rfl)))
          subst hJ
          exact .inr ⟨29, false, 29, rfl, by decide, rfl, (nhU d29), .inl ⟨33, by decide, rfl, rfl, rfl⟩⟩
         ·have d29 : a.tmps.getD 49 undef = undef := fdn (hF 29 (by decide) (hr 29 (by kernel_rfl)))
          subst hJ
          exact .inr ⟨29, false, 29, rfl, by decide, rfl, (nhU d29), .inl ⟨34, by decide, rfl, rfl, rfl⟩⟩
         ·have d29 : a.tmps.getD 49 undef = undef := fdn (hF 29 (by decide) (hr 29 (by kernel_rfl)))
          subst hJ
          exact .inr ⟨29, false, 29, rfl, by decide, rfl, (nhU d29), .inl ⟨35, by decide, rfl, rfl, rfl⟩⟩
         ·have d29 : a.tmps.getD 49 undef = undef := fdn (hF 29 (by decide) (hr 29 (by kernel_rfl)))
          subst hJ
          exact .inr ⟨29, false, 29, rfl, by decide, rfl, (nhU d29), .inl ⟨36, by decide, rfl, rfl, rfl⟩⟩
         ·have d29 : a.tmps.getD 49 undef = undef := fdn (hF 29 (by decide) (hr 29 (by kernel_rfl)))
          subst hJ
          exact .inr ⟨29, false, 29, rfl, by decide, rfl, (nhU d29), .inl ⟨37, by decide, rfl, rfl, rfl⟩⟩
         ·have d29 : a.tmps.getD 49 undef = undef := fdn (hF 29 (by decide) (hr 29 (by kernel_rfl)))
          subst hJ
          exact .inr ⟨29, false, 29, rfl, by decide, rfl, (nhU d29), .inl ⟨38, by decide, rfl, rfl, rfl⟩⟩
         ·have d29 : a.tmps.getD 49 undef = undef := fdn (hF 29 (by decide) (hr 29 (by kernel_rfl)))
          subst hJ
          exact .inr ⟨29, false, 29, rfl, by decide, rfl, (nhU d29), .inl ⟨39, by decide, rfl, rfl, rfl⟩⟩
         ·have d39 : a.tmps.getD 59 undef = undef := fdn (hF 39 (by decide) (hr 39 (by kernel_rfl)))
          subst hJ
          exact .inr ⟨39, true, 39, rfl, by decide, rfl, (nhU d39), .inl ⟨40, by decide, rfl, rfl, rfl⟩⟩
         ·have d39 : a.tmps.getD 59 undef = undef := fdn (hF 39 (by decide) (hr 39 (by kernel_rfl)))
          subst hJ
          exact .inr ⟨39, true, 39, rfl, by decide, rfl, (nhU d39), .inl ⟨41, by decide, rfl, rfl, rfl⟩⟩
         ·have d39 : a.tmps.getD 59 undef = undef := fdn (hF 39 (by decide) (hr 39 (by kernel_rfl)))
          subst hJ
          exact .inr ⟨39, true, 39, rfl, by decide, rfl, (nhU d39), .inl ⟨42, by decide, rfl, rfl, rfl⟩⟩
         ·have d39 : a.tmps.getD 59 undef = undef := fdn (hF 39 (by decide) (hr 39 (by kernel_rfl)))
          subst hJ
          exact .inr ⟨39, true, 39, rfl, by decide, rfl, (nhU d39), .inl ⟨43, by decide, rfl, rfl, rfl⟩⟩
         ·have d39 : a.tmps.getD 59 undef = undef := fdn (hF 39 (by decide) (hr 39 (by kernel_rfl)))
          subst hJ
          exact .inr ⟨39, true, 39, rfl, by decide, rfl, (nhU d39), .inl ⟨44, by decide, rfl, rfl, rfl⟩⟩
         ·have d39 : a.tmps.getD 59 undef = undef := fdn (hF 39 (by decide) (hr 39 (by kernel_rfl)))
          subst hJ
          exact .inr ⟨39, true, 39, rfl, by decide, rfl, (nhU d39), .inl ⟨45, by decide, rfl, rfl, rfl⟩⟩
         ·have d39 : a.tmps.getD 59 undef = undef := fdn (hF 39 (by decide) (hr 39 (by kernel_rfl)))
          subst hJ
          exact .inr ⟨39, true, 39, rfl, by decide, rfl, (nhU d39), .inl ⟨46, by decide, rfl, rfl, rfl⟩⟩
         ·have d39 : a.tmps.getD 59 undef = undef := fdn (hF 39 (by decide) (hr 39 (by kernel_rfl)))
          subst hJ
          exact .inr ⟨39, true, 39, rfl, by decide, rfl, (nhU d39), .inl ⟨47, by decide, rfl, rfl, rfl⟩⟩
         ·have d39 : a.tmps.getD 59 undef = undef := fdn (hF 39 (by decide) (hr 39 (by kernel_rfl)))
          subst hJ
          exact .inr ⟨39, true, 39, rfl, by decide, rfl, (nhU d39), .inl ⟨48, by decide, rfl, rfl, rfl⟩⟩
         ·have d29 : a.tmps.getD 49 undef = undef := fdn (hF 29 (by decide) (hr 29 (by kernel_rfl)))
          subst hJ
          exact .inr ⟨29, false, 29, rfl, by decide, rfl, (nhU d29), .inl ⟨49, by decide, rfl, rfl, rfl⟩⟩
         ·have d19 : a.tmps.getD 39 undef = undef := fdn (hF 19 (by decide) (hr 19 (by kernel_rfl)))
          subst hJ
          exact .inr ⟨19, true, 19, rfl, by decide, rfl, (nhU d19), .inl ⟨50, by decide, rfl, rfl, rfl⟩⟩
         ·have d16 : a.tmps.getD 36 undef = (.bool true) := fdn (hF 16 (by decide) (hr 16 (by kernel_rfl)))
          subst hJ
          exact .inr ⟨16, false, 16, rfl, by decide, rfl, (nhB d16 rfl), .inl ⟨51, by decide, rfl, rfl, rfl⟩⟩
         ·have d16 : a.tmps.getD 36 undef = (.bool true) := fdn (hF 16 (by decide) (hr 16 (by kernel_rfl)))
          subst hJ
          exact .inl ⟨(fun k b h => by cases h), .inl ⟨52, by decide, rfl, (.bool true), W1.drew, (by simp [go_sem, Act.eval, d16]), rfl, rfl⟩⟩
        case finwt =>
         intro d vs Wwt hall hJ hF
         have h0 : vs 0 = (.pointer (some ⟨q, 0, none⟩)) := hF 0 (by decide)
         have h1 : vs 1 = (.int .i64 x) := hF 1 (by decide)
         have h2 : vs 2 = (.bool false) := hF 2 (by decide)
         have h3 : vs 3 = (.bool false) := hF 3 (by decide)
         have h4 : vs 4 = (.pointer (some ⟨q, 0, none⟩)) := hF 4 (by decide)
         have h5 : vs 5 = (.int .i64 x) := hF 5 (by decide)
         have h6 : vs 6 = (.pointer (some ⟨q, 1, none⟩)) := hF 6 (by decide)
         have h7 : vs 7 = (.int .i64 y) := hF 7 (by decide)
         have h8 : vs 8 = (.bool false) := hF 8 (by decide)
         have h9 : vs 9 = (.bool false) := hF 9 (by decide)
         have h10 : vs 10 = (.bool false) := hF 10 (by decide)
         have h11 : vs 11 = (.pointer (some ⟨q, 1, none⟩)) := hF 11 (by decide)
         have h12 : vs 12 = (.int .i64 y) := hF 12 (by decide)
         have h13 : vs 13 = (.int .i64 n) := hF 13 (by decide)
         have h14 : vs 14 = (.bool true) := hF 14 (by decide)
         have h15 : vs 15 = (.bool true) := hF 15 (by decide)
         have h16 : vs 16 = (.bool true) := hF 16 (by decide)
         have h17 : vs 17 = undef := hF 17 (by decide)
         have h18 : vs 18 = undef := hF 18 (by decide)
         have h19 : vs 19 = undef := hF 19 (by decide)
         have h20 : vs 20 = undef := hF 20 (by decide)
         have h21 : vs 21 = undef := hF 21 (by decide)
         have h22 : vs 22 = undef := hF 22 (by decide)
         have h23 : vs 23 = undef := hF 23 (by decide)
         have h24 : vs 24 = undef := hF 24 (by decide)
         have h25 : vs 25 = undef := hF 25 (by decide)
         have h26 : vs 26 = undef := hF 26 (by decide)
         have h27 : vs 27 = undef := hF 27 (by decide)
         have h28 : vs 28 = undef := hF 28 (by decide)
         have h29 : vs 29 = undef := hF 29 (by decide)
         have h30 : vs 30 = undef := hF 30 (by decide)
         have h31 : vs 31 = undef := hF 31 (by decide)
         have h32 : vs 32 = undef := hF 32 (by decide)
         have h33 : vs 33 = undef := hF 33 (by decide)
         have h34 : vs 34 = undef := hF 34 (by decide)
         have h35 : vs 35 = undef := hF 35 (by decide)
         have h36 : vs 36 = undef := hF 36 (by decide)
         have h37 : vs 37 = undef := hF 37 (by decide)
         have h38 : vs 38 = undef := hF 38 (by decide)
         have h39 : vs 39 = undef := hF 39 (by decide)
         have h40 : vs 40 = undef := hF 40 (by decide)
         have h41 : vs 41 = undef := hF 41 (by decide)
         have h42 : vs 42 = undef := hF 42 (by decide)
         have h43 : vs 43 = undef := hF 43 (by decide)
         have h44 : vs 44 = undef := hF 44 (by decide)
         have h45 : vs 45 = undef := hF 45 (by decide)
         have h46 : vs 46 = undef := hF 46 (by decide)
         have h47 : vs 47 = undef := hF 47 (by decide)
         have h48 : vs 48 = undef := hF 48 (by decide)
         have h49 : vs 49 = undef := hF 49 (by decide)
         have h50 : vs 50 = undef := hF 50 (by decide)
         have h51 : vs 51 = undef := hF 51 (by decide)
         have h52 : vs 52 = (.bool true) := hF 52 (by decide)
         clear hF
         show (_ : Exit → Act → World → Prop) Exit.normal (puts _ vs 53 _) Wwt
         simp only [puts, h0, h1, h2, h3, h4, h5, h6, h7, h8, h9, h10, h11, h12, h13, h14, h15, h16, h17, h18, h19, h20, h21, h22, h23, h24, h25, h26, h27, h28, h29, h30, h31, h32, h33, h34, h35, h36, h37, h38, h39, h40, h41, h42, h43, h44, h45, h46, h47, h48, h49, h50, h51, h52, List.getD_cons_zero, List.getD_cons_succ]
         clear h0 h1 h2 h3 h4 h5 h6 h7 h8 h9 h10 h11 h12 h13 h14 h15 h16 h17 h18 h19 h20 h21 h22 h23 h24 h25 h26 h27 h28 h29 h30 h31 h32 h33 h34 h35 h36 h37 h38 h39 h40 h41 h42 h43 h44 h45 h46 h47 h48 h49 h50 h51 h52
         subst hJ
         simp only [Act.put, List.setIfInBounds_toArray, List.set_cons_succ, List.set_cons_zero]
         clear hall
         go_wp2_with (fail)
         go_ret
         rw [HE.out]
         exact ⟨rfl, HB2.out⟩
       ·by_cases c4 : 0 < k
        ·obtain ⟨kp, hjk⟩ : ∃ q, k = q + 1 := ⟨k - 1, by omega⟩
         obtain ⟨b2, o2, e2, -, cA2, cB2⟩ := Lks.at (HX.out.below HB3.out (Nat.le_refl _)) kp (by have := HM.out; omega)
         injection e2 with e2
         injection e2 with e3 e4
         subst e3 e4
         obtain ⟨px, hpx⟩ : ∃ x, x = (xs.getD kp (0, 0)).1 := ⟨_, rfl⟩
         obtain ⟨py, hpy⟩ : ∃ x, x = (xs.getD kp (0, 0)).2 := ⟨_, rfl⟩
         rw [← hpx] at cA2
         rw [← hpy] at cB2
         have HPP : Hid (px = (xs.getD (k - 1) (0, 0)).1 ∧ py = (xs.getD (k - 1) (0, 0)).2) := by rw [show k - 1 = kp by omega]; exact ⟨hpx, hpy⟩
         have cpA : W1.drew.cell? ⟨bl, ol + kp * 2, none⟩ = some (.int .i64 px) := cA2
         have cpB : W1.drew.cell? ⟨bl, ol + kp * 2 + 1, none⟩ = some (.int .i64 py) := cB2
         have hj : IntKind.i64.wrap ((k : Int) - 1) = (kp : Int) := by rw [IntKind.wrap_i64]; omega
         have hjm : 0 ≤ (kp : Int) ∧ (kp : Int) < (m : Int) := by omega
         clear hpx hpy hjk cA2 cB2
         by_cases c5 : x < px
         ·
          have HE : Hid (R = false) := HBAD.out (by unfold fitAt; rw [← HXY.out.1, ← HXY.out.2, ← HPP.out.1, ← HPP.out.2]; omega)
          go_wp2_with (fail)
          rw [← HQ.out, ← HW1.out]
          refine wpIn_wide (n := 5).1 (wpIn_flowM (F0 := Fence.wide) (n0 := 5) (fun _ => trivial) (fun h => by cases h) (by kernel_rfl) (by kernel_rfl) 53 53 (by kernel_rfl) (fun j => ([0, 1, 2, 3, 4, 5, 6, 7, 8, 9, 10, 11, 12, 13, 14, 15, 16, 17, 18, 19, 20, 21, 22, 23, 24, 25, 26, 27, 28, 29, 30, 31, 32, 33, 34, 35, 36, 37, 38, 39, 40, 41, 42, 43, 44, 45, 46, 47, 48, 49, 50, 51, 52] : List Nat).getD j 0) (fun j => ([20, 21, 22, 23, 24, 25, 26, 27, 28, 29, 30, 31, 32, 33, 34, 35, 36, 37, 38, 39, 40, 41, 42, 43, 44, 45, 46, 47, 48, 49, 50, 51, 52, 53, 54, 55, 56, 57, 58, 59, 60, 61, 62, 63, 64, 65, 66, 67, 68, 69, 70, 71, 72] : List Nat).getD j 0) (by kernel_rfl) (by kernel_rfl) (by kernel_rfl) (by kernel_rfl) (by kernel_rfl) (by kernel_rfl) (by kernel_rfl) (fun j zv => ([(fun zv => zv = (.pointer (some ⟨q, 0, none⟩))), (fun zv => zv = (.int .i64 x)), (fun zv => zv = (.bool false)), (fun zv => zv = (.bool false)), (fun zv => zv = (.pointer (some ⟨q, 0, none⟩))), (fun zv => zv = (.int .i64 x)), (fun zv => zv = (.pointer (some ⟨q, 1, none⟩))), (fun zv => zv = (.int .i64 y)), (fun zv => zv = (.bool false)), (fun zv => zv = (.bool false)), (fun zv => zv = (.bool false)), (fun zv => zv = (.pointer (some ⟨q, 1, none⟩))), (fun zv => zv = (.int .i64 y)), (fun zv => zv = (.int .i64 n)), (fun zv => zv = (.bool false)), (fun zv => zv = (.bool false)), (fun zv => zv = (.bool false)), (fun zv => zv = (.int .i64 (k : Int))), (fun zv => zv = (.bool true)), (fun zv => zv = (.bool true)), (fun zv => zv = (.slice (some ⟨bl, ol, none⟩) m ac)), (fun zv => zv = (.int .i64 (k : Int))), (fun zv => zv = (.int .i64 (kp : Int))), (fun zv => zv = (.pointer (some ⟨bl, ol + kp * 2, none⟩))), (fun zv => zv = (.pointer (some ⟨bl, ol + kp * 2, none⟩))), (fun zv => zv = (.int .i64 px)), (fun zv => zv = (.pointer (some ⟨q, 0, none⟩))), (fun zv => zv = (.int .i64 x)), (fun zv => zv = (.bool true)), (fun zv => zv = (.bool true)), (fun zv => zv = undef), (fun zv => zv = undef), (fun zv => zv = undef), (fun zv => zv = undef), (fun zv => zv = undef), (fun zv => zv = undef), (fun zv => zv = undef), (fun zv => zv = undef), (fun zv => zv = undef), (fun zv => zv = undef), (fun zv => zv = undef), (fun zv => zv = undef), (fun zv => zv = undef), (fun zv => zv = undef), (fun zv => zv = undef), (fun zv => zv = undef), (fun zv => zv = undef), (fun zv => zv = undef), (fun zv => zv = undef), (fun zv => zv = undef), (fun zv => zv = (.bool true)), (fun zv => zv = (.bool true)), (fun zv => zv = (.bool true))] : List (Value → Prop)).getD j (fun _ => True) zv) (fun _ _ W => W = W1.drew) ?h0vt ?stepvt ?finvt)
          case h0vt => exact fun _ => rfl
          case stepvt =>
           intro i o a W d vs hi ho hdi hJ hf hr hF
           replace hi : i < 53 := hi
           rcases (show i = 0 ∨ i = 1 ∨ i = 2 ∨ i = 3 ∨ i = 4 ∨ i = 5 ∨ i = 6 ∨ i = 7 ∨ i = 8 ∨ i = 9 ∨ i = 10 ∨ i = 11 ∨ i = 12 ∨ i = 13 ∨ i = 14 ∨ i = 15 ∨ i = 16 ∨ i = 17 ∨ i = 18 ∨ i = 19 ∨ i = 20 ∨ i = 21 ∨ i = 22 ∨ i = 23 ∨ i = 24 ∨ i = 25 ∨ i = 26 ∨ i = 27 ∨ i = 28 ∨ i = 29 ∨ i = 30 ∨ i = 31 ∨ i = 32 ∨ i = 33 ∨ i = 34 ∨ i = 35 ∨ i = 36 ∨ i = 37 ∨ i = 38 ∨ i = 39 ∨ i = 40 ∨ i = 41 ∨ i = 42 ∨ i = 43 ∨ i = 44 ∨ i = 45 ∨ i = 46 ∨ i = 47 ∨ i = 48 ∨ i = 49 ∨ i = 50 ∨ i = 51 ∨ i = 52 by omega) with rfl | rfl | rfl | rfl | rfl | rfl | rfl | rfl | rfl | rfl | rfl | rfl | rfl | rfl | rfl | rfl | rfl | rfl | rfl | rfl | rfl | rfl | rfl | rfl | rfl | rfl | rfl | rfl | rfl | rfl | rfl | rfl | rfl | rfl | rfl | rfl | rfl | rfl | rfl | rfl | rfl | rfl | rfl | rfl | rfl | rfl | rfl | rfl | rfl | rfl | rfl | rfl | rfl
           all_goals
            replace ho := op_at ho (by rfl)
            subst ho
           ·have f6 : a.tmps.getD 6 undef = (.pointer (some ⟨q, 0, none⟩)) := hf 6 (by kernel_rfl)
            subst hJ
            exact .inl ⟨(fun k b h => by cases h), .inl ⟨0, by decide, rfl, (.pointer (some ⟨q, 0, none⟩)), W1.drew, (by simp [go_sem, Act.eval, f6]), rfl, rfl⟩⟩
           ·have d0 : a.tmps.getD 20 undef = (.pointer (some ⟨q, 0, none⟩)) := fdn (hF 0 (by decide) (hr 0 (by kernel_rfl)))
            subst hJ
            exact .inl ⟨(fun k b h => by cases h), .inl ⟨1, by decide, rfl, (.int .i64 x), W1.drew, (by simp [go_sem, Act.eval, d0, cq0]), rfl, rfl⟩⟩
           ·have d1 : a.tmps.getD 21 undef = (.int .i64 x) := fdn (hF 1 (by decide) (hr 1 (by kernel_rfl)))
            subst hJ
            exact .inl ⟨(fun k b h => by cases h), .inl ⟨2, by decide, rfl, (.bool false), W1.drew, (by simp [go_sem, Act.eval, d1, c1]), rfl, rfl⟩⟩
           ·have d2 : a.tmps.getD 22 undef = (.bool false) := fdn (hF 2 (by decide) (hr 2 (by kernel_rfl)))
            subst hJ
            exact .inl ⟨(fun k b h => by cases h), .inl ⟨3, by decide, rfl, (.bool false), W1.drew, (by simp [go_sem, Act.eval, d2]), rfl, rfl⟩⟩
           ·have d3 : a.tmps.getD 23 undef = (.bool false) := fdn (hF 3 (by decide) (hr 3 (by kernel_rfl)))
            have f6 : a.tmps.getD 6 undef = (.pointer (some ⟨q, 0, none⟩)) := hf 6 (by kernel_rfl)
            subst hJ
            exact .inl ⟨(fun k b h => by cases h; exact ⟨3, by decide, rfl, d3⟩), .inl ⟨4, by decide, rfl, (.pointer (some ⟨q, 0, none⟩)), W1.drew, (by simp [go_sem, Act.eval, d3, f6]), rfl, rfl⟩⟩
           ·have d4 : a.tmps.getD 24 undef = (.pointer (some ⟨q, 0, none⟩)) := fdn (hF 4 (by decide) (hr 4 (by kernel_rfl)))
            have d3 : a.tmps.getD 23 undef = (.bool false) := fdn (hF 3 (by decide) (hr 3 (by kernel_rfl)))
            subst hJ
            exact .inl ⟨(fun k b h => by cases h; exact ⟨3, by decide, rfl, d3⟩), .inl ⟨5, by decide, rfl, (.int .i64 x), W1.drew, (by simp [go_sem, Act.eval, d4, d3, cq0]), rfl, rfl⟩⟩
           ·have d3 : a.tmps.getD 23 undef = (.bool false) := fdn (hF 3 (by decide) (hr 3 (by kernel_rfl)))
            have f6 : a.tmps.getD 6 undef = (.pointer (some ⟨q, 0, none⟩)) := hf 6 (by kernel_rfl)
            subst hJ
            exact .inl ⟨(fun k b h => by cases h; exact ⟨3, by decide, rfl, d3⟩), .inl ⟨6, by decide, rfl, (.pointer (some ⟨q, 1, none⟩)), W1.drew, (by simp [go_sem, Act.eval, d3, f6]), rfl, rfl⟩⟩
           ·have d6 : a.tmps.getD 26 undef = (.pointer (some ⟨q, 1, none⟩)) := fdn (hF 6 (by decide) (hr 6 (by kernel_rfl)))
            have d3 : a.tmps.getD 23 undef = (.bool false) := fdn (hF 3 (by decide) (hr 3 (by kernel_rfl)))
            subst hJ
            exact .inl ⟨(fun k b h => by cases h; exact ⟨3, by decide, rfl, d3⟩), .inl ⟨7, by decide, rfl, (.int .i64 y), W1.drew, (by simp [go_sem, Act.eval, d6, d3, cq1]), rfl, rfl⟩⟩
           ·have d5 : a.tmps.getD 25 undef = (.int .i64 x) := fdn (hF 5 (by decide) (hr 5 (by kernel_rfl)))
            have d7 : a.tmps.getD 27 undef = (.int .i64 y) := fdn (hF 7 (by decide) (hr 7 (by kernel_rfl)))
            have d3 : a.tmps.getD 23 undef = (.bool false) := fdn (hF 3 (by decide) (hr 3 (by kernel_rfl)))
            subst hJ
            exact .inl ⟨(fun k b h => by cases h; exact ⟨3, by decide, rfl, d3⟩), .inl ⟨8, by decide, rfl, (.bool false), W1.drew, (by simp [go_sem, Act.eval, d5, d7, d3, c2]), rfl, rfl⟩⟩
           ·have d3 : a.tmps.getD 23 undef = (.bool false) := fdn (hF 3 (by decide) (hr 3 (by kernel_rfl)))
            have d8 : a.tmps.getD 28 undef = (.bool false) := fdn (hF 8 (by decide) (hr 8 (by kernel_rfl)))
            subst hJ
            exact .inl ⟨(fun k b h => by cases h), .inl ⟨9, by decide, rfl, (.bool false), W1.drew, (by simp [go_sem, Act.eval, d3, d8]), rfl, rfl⟩⟩
           ·have d9 : a.tmps.getD 29 undef = (.bool false) := fdn (hF 9 (by decide) (hr 9 (by kernel_rfl)))
            subst hJ
            exact .inl ⟨(fun k b h => by cases h), .inl ⟨10, by decide, rfl, (.bool false), W1.drew, (by simp [go_sem, Act.eval, d9]), rfl, rfl⟩⟩
           ·have d10 : a.tmps.getD 30 undef = (.bool false) := fdn (hF 10 (by decide) (hr 10 (by kernel_rfl)))
            have f6 : a.tmps.getD 6 undef = (.pointer (some ⟨q, 0, none⟩)) := hf 6 (by kernel_rfl)
            subst hJ
            exact .inl ⟨(fun k b h => by cases h; exact ⟨10, by decide, rfl, d10⟩), .inl ⟨11, by decide, rfl, (.pointer (some ⟨q, 1, none⟩)), W1.drew, (by simp [go_sem, Act.eval, d10, f6]), rfl, rfl⟩⟩
           ·have d11 : a.tmps.getD 31 undef = (.pointer (some ⟨q, 1, none⟩)) := fdn (hF 11 (by decide) (hr 11 (by kernel_rfl)))
            have d10 : a.tmps.getD 30 undef = (.bool false) := fdn (hF 10 (by decide) (hr 10 (by kernel_rfl)))
            subst hJ
            exact .inl ⟨(fun k b h => by cases h; exact ⟨10, by decide, rfl, d10⟩), .inl ⟨12, by decide, rfl, (.int .i64 y), W1.drew, (by simp [go_sem, Act.eval, d11, d10, cq1]), rfl, rfl⟩⟩
           ·have d10 : a.tmps.getD 30 undef = (.bool false) := fdn (hF 10 (by decide) (hr 10 (by kernel_rfl)))
            have f0 : a.tmps.getD 0 undef = (.int .i64 n) := hf 0 (by kernel_rfl)
            subst hJ
            exact .inl ⟨(fun k b h => by cases h; exact ⟨10, by decide, rfl, d10⟩), .inl ⟨13, by decide, rfl, (.int .i64 n), W1.drew, (by simp [go_sem, Act.eval, d10, f0]), rfl, rfl⟩⟩
           ·have d12 : a.tmps.getD 32 undef = (.int .i64 y) := fdn (hF 12 (by decide) (hr 12 (by kernel_rfl)))
            have d13 : a.tmps.getD 33 undef = (.int .i64 n) := fdn (hF 13 (by decide) (hr 13 (by kernel_rfl)))
            have d10 : a.tmps.getD 30 undef = (.bool false) := fdn (hF 10 (by decide) (hr 10 (by kernel_rfl)))
            subst hJ
            exact .inl ⟨(fun k b h => by cases h; exact ⟨10, by decide, rfl, d10⟩), .inl ⟨14, by decide, rfl, (.bool false), W1.drew, (by simp [go_sem, Act.eval, d12, d13, d10, c3]), rfl, rfl⟩⟩
           ·have d10 : a.tmps.getD 30 undef = (.bool false) := fdn (hF 10 (by decide) (hr 10 (by kernel_rfl)))
            have d14 : a.tmps.getD 34 undef = (.bool false) := fdn (hF 14 (by decide) (hr 14 (by kernel_rfl)))
            subst hJ
            exact .inl ⟨(fun k b h => by cases h), .inl ⟨15, by decide, rfl, (.bool false), W1.drew, (by simp [go_sem, Act.eval, d10, d14]), rfl, rfl⟩⟩
           ·have d15 : a.tmps.getD 35 undef = (.bool false) := fdn (hF 15 (by decide) (hr 15 (by kernel_rfl)))
            subst hJ
            exact .inl ⟨(fun k b h => by cases h), .inl ⟨16, by decide, rfl, (.bool false), W1.drew, (by simp [go_sem, Act.eval, d15]), rfl, rfl⟩⟩
           ·have d16 : a.tmps.getD 36 undef = (.bool false) := fdn (hF 16 (by decide) (hr 16 (by kernel_rfl)))
            have f5 : a.tmps.getD 5 undef = (.int .i64 (k : Int)) := hf 5 (by kernel_rfl)
            subst hJ
            exact .inl ⟨(fun k b h => by cases h; exact ⟨16, by decide, rfl, d16⟩), .inl ⟨17, by decide, rfl, (.int .i64 (k : Int)), W1.drew, (by simp [go_sem, Act.eval, d16, f5]), rfl, rfl⟩⟩
           ·have d17 : a.tmps.getD 37 undef = (.int .i64 (k : Int)) := fdn (hF 17 (by decide) (hr 17 (by kernel_rfl)))
            have d16 : a.tmps.getD 36 undef = (.bool false) := fdn (hF 16 (by decide) (hr 16 (by kernel_rfl)))
            subst hJ
            exact .inl ⟨(fun k b h => by cases h; exact ⟨16, by decide, rfl, d16⟩), .inl ⟨18, by decide, rfl, (.bool true), W1.drew, (by simp [go_sem, Act.eval, d17, d16, c4]), rfl, rfl⟩⟩
           ·have d18 : a.tmps.getD 38 undef = (.bool true) := fdn (hF 18 (by decide) (hr 18 (by kernel_rfl)))
            have d16 : a.tmps.getD 36 undef = (.bool false) := fdn (hF 16 (by decide) (hr 16 (by kernel_rfl)))
            subst hJ
            exact .inl ⟨(fun k b h => by cases h; exact ⟨16, by decide, rfl, d16⟩), .inl ⟨19, by decide, rfl, (.bool true), W1.drew, (by simp [go_sem, Act.eval, d18, d16]), rfl, rfl⟩⟩
           ·have d19 : a.tmps.getD 39 undef = (.bool true) := fdn (hF 19 (by decide) (hr 19 (by kernel_rfl)))
            have f1 : a.tmps.getD 1 undef = (.slice (some ⟨bl, ol, none⟩) m ac) := hf 1 (by kernel_rfl)
            subst hJ
            exact .inl ⟨(fun k b h => by cases h; exact ⟨19, by decide, rfl, d19⟩), .inl ⟨20, by decide, rfl, (.slice (some ⟨bl, ol, none⟩) m ac), W1.drew, (by simp [go_sem, Act.eval, d19, f1]), rfl, rfl⟩⟩
           ·have d19 : a.tmps.getD 39 undef = (.bool true) := fdn (hF 19 (by decide) (hr 19 (by kernel_rfl)))
            have f5 : a.tmps.getD 5 undef = (.int .i64 (k : Int)) := hf 5 (by kernel_rfl)
            subst hJ
            exact .inl ⟨(fun k b h => by cases h; exact ⟨19, by decide, rfl, d19⟩), .inl ⟨21, by decide, rfl, (.int .i64 (k : Int)), W1.drew, (by simp [go_sem, Act.eval, d19, f5]), rfl, rfl⟩⟩
           ·have d21 : a.tmps.getD 41 undef = (.int .i64 (k : Int)) := fdn (hF 21 (by decide) (hr 21 (by kernel_rfl)))
            have d19 : a.tmps.getD 39 undef = (.bool true) := fdn (hF 19 (by decide) (hr 19 (by kernel_rfl)))
            subst hJ
            exact .inl ⟨(fun k b h => by cases h; exact ⟨19, by decide, rfl, d19⟩), .inl ⟨22, by decide, rfl, (.int .i64 (kp : Int)), W1.drew, (by simp [go_sem, Act.eval, d21, d19, hj]), rfl, rfl⟩⟩
           ·have d20 : a.tmps.getD 40 undef = (.slice (some ⟨bl, ol, none⟩) m ac) := fdn (hF 20 (by decide) (hr 20 (by kernel_rfl)))
            have d22 : a.tmps.getD 42 undef = (.int .i64 (kp : Int)) := fdn (hF 22 (by decide) (hr 22 (by kernel_rfl)))
            have d19 : a.tmps.getD 39 undef = (.bool true) := fdn (hF 19 (by decide) (hr 19 (by kernel_rfl)))
            subst hJ
            exact .inl ⟨(fun k b h => by cases h; exact ⟨19, by decide, rfl, d19⟩), .inl ⟨23, by decide, rfl, (.pointer (some ⟨bl, ol + kp * 2, none⟩)), W1.drew, (by simp [go_sem, Act.eval, d20, d22, d19, hjm]), rfl, rfl⟩⟩
           ·have d23 : a.tmps.getD 43 undef = (.pointer (some ⟨bl, ol + kp * 2, none⟩)) := fdn (hF 23 (by decide) (hr 23 (by kernel_rfl)))
            have d19 : a.tmps.getD 39 undef = (.bool true) := fdn (hF 19 (by decide) (hr 19 (by kernel_rfl)))
            subst hJ
            exact .inl ⟨(fun k b h => by cases h; exact ⟨19, by decide, rfl, d19⟩), .inl ⟨24, by decide, rfl, (.pointer (some ⟨bl, ol + kp * 2, none⟩)), W1.drew, (by simp [go_sem, Act.eval, d23, d19]), rfl, rfl⟩⟩
           ·have d24 : a.tmps.getD 44 undef = (.pointer (some ⟨bl, ol + kp * 2, none⟩)) := fdn (hF 24 (by decide) (hr 24 (by kernel_rfl)))
            have d19 : a.tmps.getD 39 undef = (.bool true) := fdn (hF 19 (by decide) (hr 19 (by kernel_rfl)))
            subst hJ
            exact .inl ⟨(fun k b h => by cases h; exact ⟨19, by decide, rfl, d19⟩), .inl ⟨25, by decide, rfl, (.int .i64 px), W1.drew, (by simp [go_sem, Act.eval, d24, d19, cpA]), rfl, rfl⟩⟩
           ·have d19 : a.tmps.getD 39 undef = (.bool true) := fdn (hF 19 (by decide) (hr 19 (by kernel_rfl)))
            have f6 : a.tmps.getD 6 undef = (.pointer (some ⟨q, 0, none⟩)) := hf 6 (by kernel_rfl)
            subst hJ
            exact .inl ⟨(fun k b h => by cases h; exact ⟨19, by decide, rfl, d19⟩), .inl ⟨26, by decide, rfl, (.pointer (some ⟨q, 0, none⟩)), W1.drew, (by simp [go_sem, Act.eval, d19, f6]), rfl, rfl⟩⟩
           ·have d26 : a.tmps.getD 46 undef = (.pointer (some ⟨q, 0, none⟩)) := fdn (hF 26 (by decide) (hr 26 (by kernel_rfl)))
            have d19 : a.tmps.getD 39 undef = (.bool true) := fdn (hF 19 (by decide) (hr 19 (by kernel_rfl)))
            subst hJ
            exact .inl ⟨(fun k b h => by cases h; exact ⟨19, by decide, rfl, d19⟩), .inl ⟨27, by decide, rfl, (.int .i64 x), W1.drew, (by simp [go_sem, Act.eval, d26, d19, cq0]), rfl, rfl⟩⟩
           ·have d25 : a.tmps.getD 45 undef = (.int .i64 px) := fdn (hF 25 (by decide) (hr 25 (by kernel_rfl)))
            have d27 : a.tmps.getD 47 undef = (.int .i64 x) := fdn (hF 27 (by decide) (hr 27 (by kernel_rfl)))
            have d19 : a.tmps.getD 39 undef = (.bool true) := fdn (hF 19 (by decide) (hr 19 (by kernel_rfl)))
            subst hJ
            exact .inl ⟨(fun k b h => by cases h; exact ⟨19, by decide, rfl, d19⟩), .inl ⟨28, by decide, rfl, (.bool true), W1.drew, (by simp [go_sem, Act.eval, d25, d27, d19, c5]), rfl, rfl⟩⟩
           ·have d28 : a.tmps.getD 48 undef = (.bool true) := fdn (hF 28 (by decide) (hr 28 (by kernel_rfl)))
            have d19 : a.tmps.getD 39 undef = (.bool true) := fdn (hF 19 (by decide) (hr 19 (by kernel_rfl)))
            subst hJ
            exact .inl ⟨(fun k b h => by cases h; exact ⟨19, by decide, rfl, d19⟩), .inl ⟨29, by decide, rfl, (.bool true), W1.drew, (by simp [go_sem, Act.eval, d28, d19]), rfl, rfl⟩⟩
           ·have d29 : a.tmps.getD 49 undef = (.bool true) := fdn (hF 29 (by decide) (hr 29 (by kernel_rfl)))
            subst hJ
            exact .inr ⟨29, false, 29, rfl, by decide, rfl, (nhB d29 rfl), .inl ⟨30, by decide, rfl, rfl, rfl⟩⟩
           ·have d29 : a.tmps.getD 49 undef = (.bool true) := fdn (hF 29 (by decide) (hr 29 (by kernel_rfl)))
            subst hJ
            exact .inr ⟨29, false, 29, rfl, by decide, rfl, (nhB d29 rfl), .inl ⟨31, by decide, rfl, rfl, rfl⟩⟩
           ·have d29 : a.tmps.getD 49 undef = (.bool true) := fdn (hF 29 (by decide) (hr 29 (by kernel_rfl)))
            subst hJ
            exact .inr ⟨29, false, 29, rfl, by decide, rfl, (nhB d29 rfl), .inl ⟨32, by decide, rfl, rfl, rfl⟩⟩
           ·have d29 : a.tmps.getD 49 undef = (.bool true) := fdn (hF 29 (by decide) (hr 29 (by kernel_rfl)))
            subst hJ
            exact .inr ⟨29, false, 29, rfl, by decide, rfl, (nhB d29 rfl), .inl ⟨33, by decide, rfl, rfl, rfl⟩⟩
           ·have d29 : a.tmps.getD 49 undef = (.bool true) := fdn (hF 29 (by decide) (hr 29 (by kernel_rfl)))
            subst hJ
            exact .inr ⟨29, false, 29, rfl, by decide, rfl, (nhB d29 rfl), .inl ⟨34, by decide, rfl, rfl, rfl⟩⟩
           ·have d29 : a.tmps.getD 49 undef = (.bool true) := fdn (hF 29 (by decide) (hr 29 (by kernel_rfl)))
            subst hJ
            exact .inr ⟨29, false, 29, rfl, by decide, rfl, (nhB d29 rfl), .inl ⟨35, by decide, rfl, rfl, rfl⟩⟩
           ·have d29 : a.tmps.getD 49 undef = (.bool true) := fdn (hF 29 (by decide) (hr 29 (by kernel_rfl)))
            subst hJ
            exact .inr ⟨29, false, 29, rfl, by decide, rfl, (nhB d29 rfl), .inl ⟨36, by decide, rfl, rfl, rfl⟩⟩
           ·have d29 : a.tmps.getD 49 undef = (.bool true) := fdn (hF 29 (by decide) (hr 29 (by kernel_rfl)))
            subst hJ
            exact .inr ⟨29, false, 29, rfl, by decide, rfl, (nhB d29 rfl), .inl ⟨37, by decide, rfl, rfl, rfl⟩⟩
           ·have d29 : a.tmps.getD 49 undef = (.bool true) := fdn (hF 29 (by decide) (hr 29 (by kernel_rfl)))
            subst hJ
            exact .inr ⟨29, false, 29, rfl, by decide, rfl, (nhB d29 rfl), .inl ⟨38, by decide, rfl, rfl, rfl⟩⟩
           ·have d29 : a.tmps.getD 49 undef = (.bool true) := fdn (hF 29 (by decide) (hr 29 (by kernel_rfl)))
            subst hJ
            exact .inr ⟨29, false, 29, rfl, by decide, rfl, (nhB d29 rfl), .inl ⟨39, by decide, rfl, rfl, rfl⟩⟩
           ·have d39 : a.tmps.getD 59 undef = undef := fdn (hF 39 (by decide) (hr 39 (by kernel_rfl)))
            subst hJ
            exact .inr ⟨39, true, 39, rfl, by decide, rfl, (nhU d39), .inl ⟨40, by decide, rfl, rfl, rfl⟩⟩
           ·have d39 : a.tmps.getD 59 undef = undef := fdn (hF 39 (by decide) (hr 39 (by kernel_rfl)))
            subst hJ
            exact .inr ⟨39, true, 39, rfl, by decide, rfl, (nhU d39), .inl ⟨41, by decide, rfl, rfl, rfl⟩⟩
           ·have d39 : a.tmps.getD 59 undef = undef := fdn (hF 39 (by decide) (hr 39 (by kernel_rfl)))
            subst hJ
            exact .inr ⟨39, true, 39, rfl, by decide, rfl, (nhU d39), .inl ⟨42, by decide, rfl, rfl, rfl⟩⟩
           ·have d39 : a.tmps.getD 59 undef = undef := fdn (hF 39 (by decide) (hr 39 (by kernel_rfl)))
            subst hJ
            exact .inr ⟨39, true, 39, rfl, by decide, rfl, (nhU d39), .inl ⟨43, by decide, rfl, rfl, rfl⟩⟩
           ·have d39 : a.tmps.getD 59 undef = undef := fdn (hF 39 (by decide) (hr 39 (by kernel_rfl)))
            subst hJ
            exact .inr ⟨39, true, 39, rfl, by decide, rfl, (nhU d39), .inl ⟨44, by decide, rfl, rfl, rfl⟩⟩
           ·have d39 : a.tmps.getD 59 undef = undef := fdn (hF 39 (by decide) (hr 39 (by kernel_rfl)))
            subst hJ
            exact .inr ⟨39, true, 39, rfl, by decide, rfl, (nhU d39), .inl ⟨45, by decide, rfl, rfl, rfl⟩⟩
           ·have d39 : a.tmps.getD 59 undef = undef := fdn (hF 39 (by decide) (hr 39 (by kernel_rfl)))
            subst hJ
            exact .inr ⟨39, true, 39, rfl, by decide, rfl, (nhU d39), .inl ⟨46, by decide, rfl, rfl, rfl⟩⟩
           ·have d39 : a.tmps.getD 59 undef = undef := fdn (hF 39 (by decide) (hr 39 (by kernel_rfl)))
            subst hJ
            exact .inr ⟨39, true, 39, rfl, by decide, rfl, (nhU d39), .inl ⟨47, by decide, rfl, rfl, rfl⟩⟩
           ·have d39 : a.tmps.getD 59 undef = undef := fdn (hF 39 (by decide) (hr 39 (by kernel_rfl)))
            subst hJ
            exact .inr ⟨39, true, 39, rfl, by decide, rfl, (nhU d39), .inl ⟨48, by decide, rfl, rfl, rfl⟩⟩
           ·have d29 : a.tmps.getD 49 undef = (.bool true) := fdn (hF 29 (by decide) (hr 29 (by kernel_rfl)))
            subst hJ
            exact .inr ⟨29, false, 29, rfl, by decide, rfl, (nhB d29 rfl), .inl ⟨49, by decide, rfl, rfl, rfl⟩⟩
           ·have d29 : a.tmps.getD 49 undef = (.bool true) := fdn (hF 29 (by decide) (hr 29 (by kernel_rfl)))
            have d19 : a.tmps.getD 39 undef = (.bool true) := fdn (hF 19 (by decide) (hr 19 (by kernel_rfl)))
            subst hJ
            exact .inl ⟨(fun k b h => by cases h; exact ⟨19, by decide, rfl, d19⟩), .inl ⟨50, by decide, rfl, (.bool true), W1.drew, (by simp [go_sem, Act.eval, d29, d19]), rfl, rfl⟩⟩
           ·have d19 : a.tmps.getD 39 undef = (.bool true) := fdn (hF 19 (by decide) (hr 19 (by kernel_rfl)))
            have d50 : a.tmps.getD 70 undef = (.bool true) := fdn (hF 50 (by decide) (hr 50 (by kernel_rfl)))
            have d16 : a.tmps.getD 36 undef = (.bool false) := fdn (hF 16 (by decide) (hr 16 (by kernel_rfl)))
            subst hJ
            exact .inl ⟨(fun k b h => by cases h; exact ⟨16, by decide, rfl, d16⟩), .inl ⟨51, by decide, rfl, (.bool true), W1.drew, (by simp [go_sem, Act.eval, d19, d50, d16]), rfl, rfl⟩⟩
           ·have d16 : a.tmps.getD 36 undef = (.bool false) := fdn (hF 16 (by decide) (hr 16 (by kernel_rfl)))
            have d51 : a.tmps.getD 71 undef = (.bool true) := fdn (hF 51 (by decide) (hr 51 (by kernel_rfl)))
            subst hJ
            exact .inl ⟨(fun k b h => by cases h), .inl ⟨52, by decide, rfl, (.bool true), W1.drew, (by simp [go_sem, Act.eval, d16, d51]), rfl, rfl⟩⟩
          case finvt =>
           intro d vs Wvt hall hJ hF
           have h0 : vs 0 = (.pointer (some ⟨q, 0, none⟩)) := hF 0 (by decide)
           have h1 : vs 1 = (.int .i64 x) := hF 1 (by decide)
           have h2 : vs 2 = (.bool false) := hF 2 (by decide)
           have h3 : vs 3 = (.bool false) := hF 3 (by decide)
           have h4 : vs 4 = (.pointer (some ⟨q, 0, none⟩)) := hF 4 (by decide)
           have h5 : vs 5 = (.int .i64 x) := hF 5 (by decide)
           have h6 : vs 6 = (.pointer (some ⟨q, 1, none⟩)) := hF 6 (by decide)
           have h7 : vs 7 = (.int .i64 y) := hF 7 (by decide)
           have h8 : vs 8 = (.bool false) := hF 8 (by decide)
           have h9 : vs 9 = (.bool false) := hF 9 (by decide)
           have h10 : vs 10 = (.bool false) := hF 10 (by decide)
           have h11 : vs 11 = (.pointer (some ⟨q, 1, none⟩)) := hF 11 (by decide)
           have h12 : vs 12 = (.int .i64 y) := hF 12 (by decide)
           have h13 : vs 13 = (.int .i64 n) := hF 13 (by decide)
           have h14 : vs 14 = (.bool false) := hF 14 (by decide)
           have h15 : vs 15 = (.bool false) := hF 15 (by decide)
           have h16 : vs 16 = (.bool false) := hF 16 (by decide)
           have h17 : vs 17 = (.int .i64 (k : Int)) := hF 17 (by decide)
           have h18 : vs 18 = (.bool true) := hF 18 (by decide)
           have h19 : vs 19 = (.bool true) := hF 19 (by decide)
           have h20 : vs 20 = (.slice (some ⟨bl, ol, none⟩) m ac) := hF 20 (by decide)
           have h21 : vs 21 = (.int .i64 (k : Int)) := hF 21 (by decide)
           have h22 : vs 22 = (.int .i64 (kp : Int)) := hF 22 (by decide)
           have h23 : vs 23 = (.pointer (some ⟨bl, ol + kp * 2, none⟩)) := hF 23 (by decide)
           have h24 : vs 24 = (.pointer (some ⟨bl, ol + kp * 2, none⟩)) := hF 24 (by decide)
           have h25 : vs 25 = (.int .i64 px) := hF 25 (by decide)
           have h26 : vs 26 = (.pointer (some ⟨q, 0, none⟩)) := hF 26 (by decide)
           have h27 : vs 27 = (.int .i64 x) := hF 27 (by decide)
           have h28 : vs 28 = (.bool true) := hF 28 (by decide)
           have h29 : vs 29 = (.bool true) := hF 29 (by decide)
           have h30 : vs 30 = undef := hF 30 (by decide)
           have h31 : vs 31 = undef := hF 31 (by decide)
           have h32 : vs 32 = undef := hF 32 (by decide)
           have h33 : vs 33 = undef := hF 33 (by decide)
           have h34 : vs 34 = undef := hF 34 (by decide)
           have h35 : vs 35 = undef := hF 35 (by decide)
           have h36 : vs 36 = undef := hF 36 (by decide)
           have h37 : vs 37 = undef := hF 37 (by decide)
           have h38 : vs 38 = undef := hF 38 (by decide)
           have h39 : vs 39 = undef := hF 39 (by decide)
           have h40 : vs 40 = undef := hF 40 (by decide)
           have h41 : vs 41 = undef := hF 41 (by decide)
           have h42 : vs 42 = undef := hF 42 (by decide)
           have h43 : vs 43 = undef := hF 43 (by decide)
           have h44 : vs 44 = undef := hF 44 (by decide)
           have h45 : vs 45 = undef := hF 45 (by decide)
           have h46 : vs 46 = undef := hF 46 (by decide)
           have h47 : vs 47 = undef := hF 47 (by decide)
           have h48 : vs 48 = undef := hF 48 (by decide)
           have h49 : vs 49 = undef := hF 49 (by decide)
           have h50 : vs 50 = (.bool true) := hF 50 (by decide)
           have h51 : vs 51 = (.bool true) := hF 51 (by decide)
           have h52 : vs 52 = (.bool true) := hF 52 (by decide)
           clear hF
           show (_ : Exit → Act → World → Prop) Exit.normal (puts _ vs 53 _) Wvt
           simp only [puts, h0, h1, h2, h3, h4, h5, h6, h7, h8, h9, h10, h11, h12, h13, h14, h15, h16, h17, h18, h19, h20, h21, h22, h23, h24, h25, h26, h27, h28, h29, h30, h31, h32, h33, h34, h35, h36, h37, h38, h39, h40, h41, h42, h43, h44, h45, h46, h47, h48, h49, h50, h51, h52, List.getD_cons_zero, List.getD_cons_succ]
           clear h0 h1 h2 h3 h4 h5 h6 h7 h8 h9 h10 h11 h12 h13 h14 h15 h16 h17 h18 h19 h20 h21 h22 h23 h24 h25 h26 h27 h28 h29 h30 h31 h32 h33 h34 h35 h36 h37 h38 h39 h40 h41 h42 h43 h44 h45 h46 h47 h48 h49 h50 h51 h52
           subst hJ
           simp only [Act.put, List.setIfInBounds_toArray, List.set_cons_succ, List.set_cons_zero]
           clear hall
           go_wp2_with (fail)
           go_ret
           rw [HE.out]
           exact ⟨rfl, HB2.out⟩
         ·by_cases c6 : px = x
          ·have hpb : (px == x) = true := by simpa using c6
           by_cases c7 : y ≤ py
           ·
            have HE : Hid (R = false) := HBAD.out (by unfold fitAt; rw [← HXY.out.1, ← HXY.out.2, ← HPP.out.1, ← HPP.out.2]; omega)
            go_wp2_with (fail)
            rw [← HQ.out, ← HW1.out]
            refine wpIn_wide (n := 5).1 (wpIn_flowM (F0 := Fence.wide) (n0 := 5) (fun _ => trivial) (fun h => by cases h) (by kernel_rfl) (by kernel_rfl) 53 53 (by kernel_rfl) (fun j => ([0, 1, 2, 3, 4, 5, 6, 7, 8, 9, 10, 11, 12, 13, 14, 15, 16, 17, 18, 19, 20, 21, 22, 23, 24, 25, 26, 27, 28, 29, 30, 31, 32, 33, 34, 35, 36, 37, 38, 39, 40, 41, 42, 43, 44, 45, 46, 47, 48, 49, 50, 51, 52] : List Nat).getD j 0) (fun j => ([20, 21, 22, 23, 24, 25, 26, 27, 28, 29, 30, 31, 32, 33, 34, 35, 36, 37, 38, 39, 40, 41, 42, 43, 44, 45, 46, 47, 48, 49, 50, 51, 52, 53, 54, 55, 56, 57, 58, 59, 60, 61, 62, 63, 64, 65, 66, 67, 68, 69, 70, 71, 72] : List Nat).getD j 0) (by kernel_rfl) (by kernel_rfl) (by kernel_rfl) (by kernel_rfl) (by kernel_rfl) (by kernel_rfl) (by kernel_rfl) (fun j zv => ([(fun zv => zv = (.pointer (some ⟨q, 0, none⟩))), (fun zv => zv = (.int .i64 x)), (fun zv => zv = (.bool false)), (fun zv => zv = (.bool false)), (fun zv => zv = (.pointer (some ⟨q, 0, none⟩))), (fun zv => zv = (.int .i64 x)), (fun zv => zv = (.pointer (some ⟨q, 1, none⟩))), (fun zv => zv = (.int .i64 y)), (fun zv => zv = (.bool false)), (fun zv => zv = (.bool false)), (fun zv => zv = (.bool false)), (fun zv => zv = (.pointer (some ⟨q, 1, none⟩))), (fun zv => zv = (.int .i64 y)), (fun zv => zv = (.int .i64 n)), (fun zv => zv = (.bool false)), (fun zv => zv = (.bool false)), (fun zv => zv = (.bool false)), (fun zv => zv = (.int .i64 (k : Int))), (fun zv => zv = (.bool true)), (fun zv => zv = (.bool true)), (fun zv => zv = (.slice (some ⟨bl, ol, none⟩) m ac)), (fun zv => zv = (.int .i64 (k : Int))), (fun zv => zv = (.int .i64 (kp : Int))), (fun zv => zv = (.pointer (some ⟨bl, ol + kp * 2, none⟩))), (fun zv => zv = (.pointer (some ⟨bl, ol + kp * 2, none⟩))), (fun zv => zv = (.int .i64 px)), (fun zv => zv = (.pointer (some ⟨q, 0, none⟩))), (fun zv => zv = (.int .i64 x)), (fun zv => zv = (.bool false)), (fun zv => zv = (.bool false)), (fun zv => zv = (.slice (some ⟨bl, ol, none⟩) m ac)), (fun zv => zv = (.int .i64 (k : Int))), (fun zv => zv = (.int .i64 (kp : Int))), (fun zv => zv = (.pointer (some ⟨bl, ol + kp * 2, none⟩))), (fun zv => zv = (.pointer (some ⟨bl, ol + kp * 2, none⟩))), (fun zv => zv = (.int .i64 px)), (fun zv => zv = (.pointer (some ⟨q, 0, none⟩))), (fun zv => zv = (.int .i64 x)), (fun zv => zv = (.bool true)), (fun zv => zv = (.bool true)), (fun zv => zv = (.slice (some ⟨bl, ol, none⟩) m ac)), (fun zv => zv = (.int .i64 (k : Int))), (fun zv => zv = (.int .i64 (kp : Int))), (fun zv => zv = (.pointer (some ⟨bl, ol + kp * 2, none⟩))), (fun zv => zv = (.pointer (some ⟨bl, ol + kp * 2 + 1, none⟩))), (fun zv => zv = (.int .i64 py)), (fun zv => zv = (.pointer (some ⟨q, 1, none⟩))), (fun zv => zv = (.int .i64 y)), (fun zv => zv = (.bool true)), (fun zv => zv = (.bool true)), (fun zv => zv = (.bool true)), (fun zv => zv = (.bool true)), (fun zv => zv = (.bool true))] : List (Value → Prop)).getD j (fun _ => True) zv) (fun _ _ W => W = W1.drew) ?h0ut ?steput ?finut)
            case h0ut => exact fun _ => rfl
            case steput =>
             intro i o a W d vs hi ho hdi hJ hf hr hF
             replace hi : i < 53 := hi
             rcases (show i = 0 ∨ i = 1 ∨ i = 2 ∨ i = 3 ∨ i = 4 ∨ i = 5 ∨ i = 6 ∨ i = 7 ∨ i = 8 ∨ i = 9 ∨ i = 10 ∨ i = 11 ∨ i = 12 ∨ i = 13 ∨ i = 14 ∨ i = 15 ∨ i = 16 ∨ i = 17 ∨ i = 18 ∨ i = 19 ∨ i = 20 ∨ i = 21 ∨ i = 22 ∨ i = 23 ∨ i = 24 ∨ i = 25 ∨ i = 26 ∨ i = 27 ∨ i = 28 ∨ i = 29 ∨ i = 30 ∨ i = 31 ∨ i = 32 ∨ i = 33 ∨ i = 34 ∨ i = 35 ∨ i = 36 ∨ i = 37 ∨ i = 38 ∨ i = 39 ∨ i = 40 ∨ i = 41 ∨ i = 42 ∨ i = 43 ∨ i = 44 ∨ i = 45 ∨ i = 46 ∨ i = 47 ∨ i = 48 ∨ i = 49 ∨ i = 50 ∨ i = 51 ∨ i = 52 by omega) with rfl | rfl | rfl | rfl | rfl | rfl | rfl | rfl | rfl | rfl | rfl | rfl | rfl | rfl | rfl | rfl | rfl | rfl | rfl | rfl | rfl | rfl | rfl | rfl | rfl | rfl | rfl | rfl | rfl | rfl | rfl | rfl | rfl | rfl | rfl | rfl | rfl | rfl | rfl | rfl | rfl | rfl | rfl | rfl | rfl | rfl | rfl | rfl | rfl | rfl | rfl | rfl | rfl
             all_goals
              replace ho := op_at ho (by rfl)
              subst ho
             ·have f6 : a.tmps.getD 6 undef = (.pointer (some ⟨q, 0, none⟩)) := hf 6 (by kernel_rfl)
              subst hJ
              exact .inl ⟨(fun k b h => by cases h), .inl ⟨0, by decide, rfl, (.pointer (some ⟨q, 0, none⟩)), W1.drew, (by simp [go_sem, Act.eval, f6]), rfl, rfl⟩⟩
             ·have d0 : a.tmps.getD 20 undef = (.pointer (some ⟨q, 0, none⟩)) := fdn (hF 0 (by decide) (hr 0 (by kernel_rfl)))
              subst hJ
              exact .inl ⟨(fun k b h => by cases h), .inl ⟨1, by decide, rfl, (.int .i64 x), W1.drew, (by simp [go_sem, Act.eval, d0, cq0]), rfl, rfl⟩⟩
             ·have d1 : a.tmps.getD 21 undef = (.int .i64 x) := fdn (hF 1 (by decide) (hr 1 (by kernel_rfl)))
              subst hJ
              exact .inl ⟨(fun k b h => by cases h), .inl ⟨2, by decide, rfl, (.bool false), W1.drew, (by simp [go_sem, Act.eval, d1, c1]), rfl, rfl⟩⟩
             ·have d2 : a.tmps.getD 22 undef = (.bool false) := fdn (hF 2 (by decide) (hr 2 (by kernel_rfl)))
              subst hJ
              exact .inl ⟨(fun k b h => by cases h), .inl ⟨3, by decide, rfl, (.bool false), W1.drew, (by simp [go_sem, Act.eval, d2]), rfl, rfl⟩⟩
             ·have d3 : a.tmps.getD 23 undef = (.bool false) := fdn (hF 3 (by decide) (hr 3 (by kernel_rfl)))
              have f6 : a.tmps.getD 6 undef = (.pointer (some ⟨q, 0, none⟩)) := hf 6 (by kernel_rfl)
              subst hJ
              exact .inl ⟨(fun k b h => by cases h; exact ⟨3, by decide, rfl, d3⟩), .inl ⟨4, by decide, rfl, (.pointer (some ⟨q, 0, none⟩)), W1.drew, (by simp [go_sem, Act.eval, d3, f6]), rfl, rfl⟩⟩
             ·have d4 : a.tmps.getD 24 undef = (.pointer (some ⟨q, 0, none⟩)) := fdn (hF 4 (by decide) (hr 4 (by kernel_rfl)))
              have d3 : a.tmps.getD 23 undef = (.bool false) := fdn (hF 3 (by decide) (hr 3 (by kernel_rfl)))
              subst hJ
              exact .inl ⟨(fun k b h => by cases h; exact ⟨3, by decide, rfl, d3⟩), .inl ⟨5, by decide, rfl, (.int .i64 x), W1.drew, (by simp [go_sem, Act.eval, d4, d3, cq0]), rfl, rfl⟩⟩
             ·have d3 : a.tmps.getD 23 undef = (.bool false) := fdn (hF 3 (by decide) (hr 3 (by kernel_rfl)))
              have f6 : a.tmps.getD 6 undef = (.pointer (some ⟨q, 0, none⟩)) := hf 6 (by kernel_rfl)
              subst hJ
              exact .inl ⟨(fun k b h => by cases h; exact ⟨3, by decide, rfl, d3⟩), .inl ⟨6, by decide, rfl, (.pointer (some ⟨q, 1, none⟩)), W1.drew, (by simp [go_sem, Act.eval, d3, f6]), rfl, rfl⟩⟩
             ·have d6 : a.tmps.getD 26 undef = (.pointer (some ⟨q, 1, none⟩)) := fdn (hF 6 (by decide) (hr 6 (by kernel_rfl)))
              have d3 : a.tmps.getD 23 undef = (.bool false) := fdn (hF 3 (by decide) (hr 3 (by kernel_rfl)))
              subst hJ
              exact .inl ⟨(fun k b h => by cases h; exact ⟨3, by decide, rfl, d3⟩), .inl ⟨7, by decide, rfl, (.int .i64 y), W1.drew, (by simp [go_sem, Act.eval, d6, d3, cq1]), rfl, rfl⟩⟩
             ·have d5 : a.tmps.getD 25 undef = (.int .i64 x) := fdn (hF 5 (by decide) (hr 5 (by kernel_rfl)))
              have d7 : a.tmps.getD 27 undef = (.int .i64 y) := fdn (hF 7 (by decide) (hr 7 (by kernel_rfl)))
              have d3 : a.tmps.getD 23 undef = (.bool false) := fdn (hF 3 (by decide) (hr 3 (by kernel_rfl)))
              subst hJ
              exact .inl ⟨(fun k b h => by cases h; exact ⟨3, by decide, rfl, d3⟩), .inl ⟨8, by decide, rfl, (.bool false), W1.drew, (by simp [go_sem, Act.eval, d5, d7, d3, c2]), rfl, rfl⟩⟩
             ·have d3 : a.tmps.getD 23 undef = (.bool false) := fdn (hF 3 (by decide) (hr 3 (by kernel_rfl)))
              have d8 : a.tmps.getD 28 undef = (.bool false) := fdn (hF 8 (by decide) (hr 8 (by kernel_rfl)))
              subst hJ
              exact .inl ⟨(fun k b h => by cases h), .inl ⟨9, by decide, rfl, (.bool false), W1.drew, (by simp [go_sem, Act.eval, d3, d8]), rfl, rfl⟩⟩
             ·have d9 : a.tmps.getD 29 undef = (.bool false) := fdn (hF 9 (by decide) (hr 9 (by kernel_rfl)))
              subst hJ
              exact .inl ⟨(fun k b h => by cases h), .inl ⟨10, by decide, rfl, (.bool false), W1.drew, (by simp [go_sem, Act.eval, d9]), rfl, rfl⟩⟩
             ·have d10 : a.tmps.getD 30 undef = (.bool false) := fdn (hF 10 (by decide) (hr 10 (by kernel_rfl)))
              have f6 : a.tmps.getD 6 undef = (.pointer (some ⟨q, 0, none⟩)) := hf 6 (by kernel_rfl)
              subst hJ
              exact .inl ⟨(fun k b h => by cases h; exact ⟨10, by decide, rfl, d10⟩), .inl ⟨11, by decide, rfl, (.pointer (some ⟨q, 1, none⟩)), W1.drew, (by simp [go_sem, Act.eval, d10, f6]), rfl, rfl⟩⟩
             ·have d11 : a.tmps.getD 31 undef = (.pointer (some ⟨q, 1, none⟩)) := fdn (hF 11 (by decide) (hr 11 (by kernel_rfl)))
              have d10 : a.tmps.getD 30 undef = (.bool false) := fdn (hF 10 (by decide) (hr 10 (by kernel_rfl)))
              subst hJ
              exact .inl ⟨(fun k b h => by cases h; exact ⟨10, by decide, rfl, d10⟩), .inl ⟨12, by decide, rfl, (.int .i64 y), W1.drew, (by simp [go_sem, Act.eval, d11, d10, cq1]), rfl, rfl⟩⟩
             ·have d10 : a.tmps.getD 30 undef = (.bool false) := fdn (hF 10 (by decide) (hr 10 (by kernel_rfl)))
              have f0 : a.tmps.getD 0 undef = (.int .i64 n) := hf 0 (by kernel_rfl)
              subst hJ
              exact .inl ⟨(fun k b h => by cases h; exact ⟨10, by decide, rfl, d10⟩), .inl ⟨13, by decide, rfl, (.int .i64 n), W1.drew, (by simp [go_sem, Act.eval, d10, f0]), rfl, rfl⟩⟩
             ·have d12 : a.tmps.getD 32 undef = (.int .i64 y) := fdn (hF 12 (by decide) (hr 12 (by kernel_rfl)))
              have d13 : a.tmps.getD 33 undef = (.int .i64 n) := fdn (hF 13 (by decide) (hr 13 (by kernel_rfl)))
              have d10 : a.tmps.getD 30 undef = (.bool false) := fdn (hF 10 (by decide) (hr 10 (by kernel_rfl)))
              subst hJ
              exact .inl ⟨(fun k b h => by cases h; exact ⟨10, by decide, rfl, d10⟩), .inl ⟨14, by decide, rfl, (.bool false), W1.drew, (by simp [go_sem, Act.eval, d12, d13, d10, c3]), rfl, rfl⟩⟩
             ·have d10 : a.tmps.getD 30 undef = (.bool false) := fdn (hF 10 (by decide) (hr 10 (by kernel_rfl)))
              have d14 : a.tmps.getD 34 undef = (.bool false) := fdn (hF 14 (by decide) (hr 14 (by kernel_rfl)))
              subst hJ
              exact .inl ⟨(fun k b h => by cases h), .inl ⟨15, by decide, rfl, (.bool false), W1.drew, (by simp [go_sem, Act.eval, d10, d14]), rfl, rfl⟩⟩
             ·have d15 : a.tmps.getD 35 undef = (.bool false) := fdn (hF 15 (by decide) (hr 15 (by kernel_rfl)))
              subst hJ
              exact .inl ⟨(fun k b h => by cases h), .inl ⟨16, by decide, rfl, (.bool false), W1.drew, (by simp [go_sem, Act.eval, d15]), rfl, rfl⟩⟩
             ·have d16 : a.tmps.getD 36 undef = (.bool false) := fdn (hF 16 (by decide) (hr 16 (by kernel_rfl)))
              have f5 : a.tmps.getD 5 undef = (.int .i64 (k : Int)) := hf 5 (by kernel_rfl)
              subst hJ
              exact .inl ⟨(fun k b h => by cases h; exact ⟨16, by decide, rfl, d16⟩), .inl ⟨17, by decide, rfl, (.int .i64 (k : Int)), W1.drew, (by simp [go_sem, Act.eval, d16, f5]), rfl, rfl⟩⟩
             ·have d17 : a.tmps.getD 37 undef = (.int .i64 (k : Int)) := fdn (hF 17 (by decide) (hr 17 (by kernel_rfl)))
              have d16 : a.tmps.getD 36 undef = (.bool false) := fdn (hF 16 (by decide) (hr 16 (by kernel_rfl)))
              subst hJ
              exact .inl ⟨(fun k b h => by cases h; exact ⟨16, by decide, rfl, d16⟩), .inl ⟨18, by decide, rfl, (.bool true), W1.drew, (by simp [go_sem, Act.eval, d17, d16, c4]), rfl, rfl⟩⟩
             ·have d18 : a.tmps.getD 38 undef = (.bool true) := fdn (hF 18 (by decide) (hr 18 (by kernel_rfl)))
              have d16 : a.tmps.getD 36 undef = (.bool false) := fdn (hF 16 (by decide) (hr 16 (by kernel_rfl)))
              subst hJ
              exact .inl ⟨(fun k b h => by cases h; exact ⟨16, by decide, rfl, d16⟩), .inl ⟨19, by decide, rfl, (.bool true), W1.drew, (by simp [go_sem, Act.eval, d18, d16]), rfl, rfl⟩⟩
             ·have d19 : a.tmps.getD 39 undef = (.bool true) := fdn (hF 19 (by decide) (hr 19 (by kernel_rfl)))
              have f1 : a.tmps.getD 1 undef = (.slice (some ⟨bl, ol, none⟩) m ac) := hf 1 (by kernel_rfl)
              subst hJ
              exact .inl ⟨(fun k b h => by cases h; exact ⟨19, by decide, rfl, d19⟩), .inl ⟨20, by decide, rfl, (.slice (some ⟨bl, ol, none⟩) m ac), W1.drew, (by simp [go_sem, Act.eval, d19, f1]), rfl, rfl⟩⟩
             ·have d19 : a.tmps.getD 39 undef = (.bool true) := fdn (hF 19 (by decide) (hr 19 (by kernel_rfl)))
              have f5 : a.tmps.getD 5 undef = (.int .i64 (k : Int)) := hf 5 (by kernel_rfl)
              subst hJ
              exact .inl ⟨(fun k b h => by cases h; exact ⟨19, by decide, rfl, d19⟩), .inl ⟨21, by decide, rfl, (.int .i64 (k : Int)), W1.drew, (by simp [go_sem, Act.eval, d19, f5]), rfl, rfl⟩⟩
             ·have d21 : a.tmps.getD 41 undef = (.int .i64 (k : Int)) := fdn (hF 21 (by decide) (hr 21 (by kernel_rfl)))
              have d19 : a.tmps.getD 39 undef = (.bool true) := fdn (hF 19 (by decide) (hr 19 (by kernel_rfl)))
              subst hJ
              exact .inl ⟨(fun k b h => by cases h; exact ⟨19, by decide, rfl, d19⟩), .inl ⟨22, by decide, rfl, (.int .i64 (kp : Int)), W1.drew, (by simp [go_sem, Act.eval, d21, d19, hj]), rfl, rfl⟩⟩
             ·have d20 : a.tmps.getD 40 undef = (.slice (some ⟨bl, ol, none⟩) m ac) := fdn (hF 20 (by decide) (hr 20 (by kernel_rfl)))
              have d22 : a.tmps.getD 42 undef = (.int .i64 (kp : Int)) := fdn (hF 22 (by decide) (hr 22 (by kernel_rfl)))
              have d19 : a.tmps.getD 39 undef = (.bool true) := fdn (hF 19 (by decide) (hr 19 (by kernel_rfl)))
              subst hJ
              exact .inl ⟨(fun k b h => by cases h; exact ⟨19, by decide, rfl, d19⟩), .inl ⟨23, by decide, rfl, (.pointer (some ⟨bl, ol + kp * 2, none⟩)), W1.drew, (by simp [go_sem, Act.eval, d20, d22, d19, hjm]), rfl, rfl⟩⟩
             ·have d23 : a.tmps.getD 43 undef = (.pointer (some ⟨bl, ol + kp * 2, none⟩)) := fdn (hF 23 (by decide) (hr 23 (by kernel_rfl)))
              have d19 : a.tmps.getD 39 undef = (.bool true) := fdn (hF 19 (by decide) (hr 19 (by kernel_rfl)))
              subst hJ
              exact .inl ⟨(fun k b h => by cases h; exact ⟨19, by decide, rfl, d19⟩), .inl ⟨24, by decide, rfl, (.pointer (some ⟨bl, ol + kp * 2, none⟩)), W1.drew, (by simp [go_sem, Act.eval, d23, d19]), rfl, rfl⟩⟩
             ·have d24 : a.tmps.getD 44 undef = (.pointer (some ⟨bl, ol + kp * 2, none⟩)) := fdn (hF 24 (by decide) (hr 24 (by kernel_rfl)))
              have d19 : a.tmps.getD 39 undef = (.bool true) := fdn (hF 19 (by decide) (hr 19 (by kernel_rfl)))
              subst hJ
              exact .inl ⟨(fun k b h => by cases h; exact ⟨19, by decide, rfl, d19⟩), .inl ⟨25, by decide, rfl, (.int .i64 px), W1.drew, (by simp [go_sem, Act.eval, d24, d19, cpA]), rfl, rfl⟩⟩
             ·have d19 : a.tmps.getD 39 undef = (.bool true) := fdn (hF 19 (by decide) (hr 19 (by kernel_rfl)))
              have f6 : a.tmps.getD 6 undef = (.pointer (some ⟨q, 0, none⟩)) := hf 6 (by kernel_rfl)
              subst hJ
              exact .inl ⟨(fun k b h => by cases h; exact ⟨19, by decide, rfl, d19⟩), .inl ⟨26, by decide, rfl, (.pointer (some ⟨q, 0, none⟩)), W1.drew, (by simp [go_sem, Act.eval, d19, f6]), rfl, rfl⟩⟩
             ·have d26 : a.tmps.getD 46 undef = (.pointer (some ⟨q, 0, none⟩)) := fdn (hF 26 (by decide) (hr 26 (by kernel_rfl)))
              have d19 : a.tmps.getD 39 undef = (.bool true) := fdn (hF 19 (by decide) (hr 19 (by kernel_rfl)))
              subst hJ
              exact .inl ⟨(fun k b h => by cases h; exact ⟨19, by decide, rfl, d19⟩), .inl ⟨27, by decide, rfl, (.int .i64 x), W1.drew, (by simp [go_sem, Act.eval, d26, d19, cq0]), rfl, rfl⟩⟩
             ·have d25 : a.tmps.getD 45 undef = (.int .i64 px) := fdn (hF 25 (by decide) (hr 25 (by kernel_rfl)))
              have d27 : a.tmps.getD 47 undef = (.int .i64 x) := fdn (hF 27 (by decide) (hr 27 (by kernel_rfl)))
              have d19 : a.tmps.getD 39 undef = (.bool true) := fdn (hF 19 (by decide) (hr 19 (by kernel_rfl)))
              subst hJ
              exact .inl ⟨(fun k b h => by cases h; exact ⟨19, by decide, rfl, d19⟩), .inl ⟨28, by decide, rfl, (.bool false), W1.drew, (by simp [go_sem, Act.eval, d25, d27, d19, c5]), rfl, rfl⟩⟩
             ·have d28 : a.tmps.getD 48 undef = (.bool false) := fdn (hF 28 (by decide) (hr 28 (by kernel_rfl)))
              have d19 : a.tmps.getD 39 undef = (.bool true) := fdn (hF 19 (by decide) (hr 19 (by kernel_rfl)))
              subst hJ
              exact .inl ⟨(fun k b h => by cases h; exact ⟨19, by decide, rfl, d19⟩), .inl ⟨29, by decide, rfl, (.bool false), W1.drew, (by simp [go_sem, Act.eval, d28, d19]), rfl, rfl⟩⟩
             ·have d29 : a.tmps.getD 49 undef = (.bool false) := fdn (hF 29 (by decide) (hr 29 (by kernel_rfl)))
              have f1 : a.tmps.getD 1 undef = (.slice (some ⟨bl, ol, none⟩) m ac) := hf 1 (by kernel_rfl)
              subst hJ
              exact .inl ⟨(fun k b h => by cases h; exact ⟨29, by decide, rfl, d29⟩), .inl ⟨30, by decide, rfl, (.slice (some ⟨bl, ol, none⟩) m ac), W1.drew, (by simp [go_sem, Act.eval, d29, f1]), rfl, rfl⟩⟩
             ·have d29 : a.tmps.getD 49 undef = (.bool false) := fdn (hF 29 (by decide) (hr 29 (by kernel_rfl)))
              have f5 : a.tmps.getD 5 undef = (.int .i64 (k : Int)) := hf 5 (by kernel_rfl)
              subst hJ
              exact .inl ⟨(fun k b h => by cases h; exact ⟨29, by decide, rfl, d29⟩), .inl ⟨31, by decide, rfl, (.int .i64 (k : Int)), W1.drew, (by simp [go_sem, Act.eval, d29, f5]), rfl, rfl⟩⟩
             ·have d31 : a.tmps.getD 51 undef = (.int .i64 (k : Int)) := fdn (hF 31 (by decide) (hr 31 (by kernel_rfl)))
              have d29 : a.tmps.getD 49 undef = (.bool false) := fdn (hF 29 (by decide) (hr 29 (by kernel_rfl)))
              subst hJ
              exact .inl ⟨(fun k b h => by cases h; exact ⟨29, by decide, rfl, d29⟩), .inl ⟨32, by decide, rfl, (.int .i64 (kp : Int)), W1.drew, (by simp [go_sem, Act.eval, d31, d29, hj]), rfl, rfl⟩⟩
             ·have d30 : a.tmps.getD 50 undef = (.slice (some ⟨bl, ol, none⟩) m ac) := fdn (hF 30 (by decide) (hr 30 (by kernel_rfl)))
              have d32 : a.tmps.getD 52 undef = (.int .i64 (kp : Int)) := fdn (hF 32 (by decide) (hr 32 (by kernel_rfl)))
              have d29 : a.tmps.getD 49 undef = (.bool false) := fdn (hF 29 (by decide) (hr 29 (by kernel_rfl)))
              subst hJ
              exact .inl ⟨(fun k b h => by cases h; exact ⟨29, by decide, rfl, d29⟩), .inl ⟨33, by decide, rfl, (.pointer (some ⟨bl, ol + kp * 2, none⟩)), W1.drew, (by simp [go_sem, Act.eval, d30, d32, d29, hjm]), rfl, rfl⟩⟩
             ·have d33 : a.tmps.getD 53 undef = (.pointer (some ⟨bl, ol + kp * 2, none⟩)) := fdn (hF 33 (by decide) (hr 33 (by kernel_rfl)))
              have d29 : a.tmps.getD 49 undef = (.bool false) := fdn (hF 29 (by decide) (hr 29 (by kernel_rfl)))
              subst hJ
              exact .inl ⟨(fun k b h => by cases h; exact ⟨29, by decide, rfl, d29⟩), .inl ⟨34, by decide, rfl, (.pointer (some ⟨bl, ol + kp * 2, none⟩)), W1.drew, (by simp [go_sem, Act.eval, d33, d29]), rfl, rfl⟩⟩
             ·have d34 : a.tmps.getD 54 undef = (.pointer (some ⟨bl, ol + kp * 2, none⟩)) := fdn (hF 34 (by decide) (hr 34 (by kernel_rfl)))
              have d29 : a.tmps.getD 49 undef = (.bool false) := fdn (hF 29 (by decide) (hr 29 (by kernel_rfl)))
              subst hJ
              exact .inl ⟨(fun k b h => by cases h; exact ⟨29, by decide, rfl, d29⟩), .inl ⟨35, by decide, rfl, (.int .i64 px), W1.drew, (by simp [go_sem, Act.eval, d34, d29, cpA]), rfl, rfl⟩⟩
             ·have d29 : a.tmps.getD 49 undef = (.bool false) := fdn (hF 29 (by decide) (hr 29 (by kernel_rfl)))
              have f6 : a.tmps.getD 6 undef = (.pointer (some ⟨q, 0, none⟩)) := hf 6 (by kernel_rfl)
              subst hJ
              exact .inl ⟨(fun k b h => by cases h; exact ⟨29, by decide, rfl, d29⟩), .inl ⟨36, by decide, rfl, (.pointer (some ⟨q, 0, none⟩)), W1.drew, (by simp [go_sem, Act.eval, d29, f6]), rfl, rfl⟩⟩
             ·have d36 : a.tmps.getD 56 undef = (.pointer (some ⟨q, 0, none⟩)) := fdn (hF 36 (by decide) (hr 36 (by kernel_rfl)))
              have d29 : a.tmps.getD 49 undef = (.bool false) := fdn (hF 29 (by decide) (hr 29 (by kernel_rfl)))
              subst hJ
              exact .inl ⟨(fun k b h => by cases h; exact ⟨29, by decide, rfl, d29⟩), .inl ⟨37, by decide, rfl, (.int .i64 x), W1.drew, (by simp [go_sem, Act.eval, d36, d29, cq0]), rfl, rfl⟩⟩
             ·have d35 : a.tmps.getD 55 undef = (.int .i64 px) := fdn (hF 35 (by decide) (hr 35 (by kernel_rfl)))
              have d37 : a.tmps.getD 57 undef = (.int .i64 x) := fdn (hF 37 (by decide) (hr 37 (by kernel_rfl)))
              have d29 : a.tmps.getD 49 undef = (.bool false) := fdn (hF 29 (by decide) (hr 29 (by kernel_rfl)))
              subst hJ
              exact .inl ⟨(fun k b h => by cases h; exact ⟨29, by decide, rfl, d29⟩), .inl ⟨38, by decide, rfl, (.bool true), W1.drew, (by simp [go_sem, Act.eval, d35, d37, d29, hpb]), rfl, rfl⟩⟩
             ·have d38 : a.tmps.getD 58 undef = (.bool true) := fdn (hF 38 (by decide) (hr 38 (by kernel_rfl)))
              have d29 : a.tmps.getD 49 undef = (.bool false) := fdn (hF 29 (by decide) (hr 29 (by kernel_rfl)))
              subst hJ
              exact .inl ⟨(fun k b h => by cases h; exact ⟨29, by decide, rfl, d29⟩), .inl ⟨39, by decide, rfl, (.bool true), W1.drew, (by simp [go_sem, Act.eval, d38, d29]), rfl, rfl⟩⟩
             ·have d39 : a.tmps.getD 59 undef = (.bool true) := fdn (hF 39 (by decide) (hr 39 (by kernel_rfl)))
              have f1 : a.tmps.getD 1 undef = (.slice (some ⟨bl, ol, none⟩) m ac) := hf 1 (by kernel_rfl)
              subst hJ
              exact .inl ⟨(fun k b h => by cases h; exact ⟨39, by decide, rfl, d39⟩), .inl ⟨40, by decide, rfl, (.slice (some ⟨bl, ol, none⟩) m ac), W1.drew, (by simp [go_sem, Act.eval, d39, f1]), rfl, rfl⟩⟩
             ·have d39 : a.tmps.getD 59 undef = (.bool true) := fdn (hF 39 (by decide) (hr 39 (by kernel_rfl)))
              have f5 : a.tmps.getD 5 undef = (.int .i64 (k : Int)) := hf 5 (by kernel_rfl)
              subst hJ
              exact .inl ⟨(fun k b h => by cases h; exact ⟨39, by decide, rfl, d39⟩), .inl ⟨41, by decide, rfl, (.int .i64 (k : Int)), W1.drew, (by simp [go_sem, Act.eval, d39, f5]), rfl, rfl⟩⟩
             ·have d41 : a.tmps.getD 61 undef = (.int .i64 (k : Int)) := fdn (hF 41 (by decide) (hr 41 (by kernel_rfl)))
              have d39 : a.tmps.getD 59 undef = (.bool true) := fdn (hF 39 (by decide) (hr 39 (by kernel_rfl)))
              subst hJ
              exact .inl ⟨(fun k b h => by cases h; exact ⟨39, by decide, rfl, d39⟩), .inl ⟨42, by decide, rfl, (.int .i64 (kp : Int)), W1.drew, (by simp [go_sem, Act.eval, d41, d39, hj]), rfl, rfl⟩⟩
             ·have d40 : a.tmps.getD 60 undef = (.slice (some ⟨bl, ol, none⟩) m ac) := fdn (hF 40 (by decide) (hr 40 (by kernel_rfl)))
              have d42 : a.tmps.getD 62 undef = (.int .i64 (kp : Int)) := fdn (hF 42 (by decide) (hr 42 (by kernel_rfl)))
              have d39 : a.tmps.getD 59 undef = (.bool true) := fdn (hF 39 (by decide) (hr 39 (by kernel_rfl)))
              subst hJ
              exact .inl ⟨(fun k b h => by cases h; exact ⟨39, by decide, rfl, d39⟩), .inl ⟨43, by decide, rfl, (.pointer (some ⟨bl, ol + kp * 2, none⟩)), W1.drew, (by simp [go_sem, Act.eval, d40, d42, d39, hjm]), rfl, rfl⟩⟩
             ·have d43 : a.tmps.getD 63 undef = (.pointer (some ⟨bl, ol + kp * 2, none⟩)) := fdn (hF 43 (by decide) (hr 43 (by kernel_rfl)))
              have d39 : a.tmps.getD 59 undef = (.bool true) := fdn (hF 39 (by decide) (hr 39 (by kernel_rfl)))
              subst hJ
              exact .inl ⟨(fun k b h => by cases h; exact ⟨39, by decide, rfl, d39⟩), .inl ⟨44, by decide, rfl, (.pointer (some ⟨bl, ol + kp * 2 + 1, none⟩)), W1.drew, (by simp [go_sem, Act.eval, d43, d39]), rfl, rfl⟩⟩
             ·have d44 : a.tmps.getD 64 undef = (.pointer (some ⟨bl, ol + kp * 2 + 1, none⟩)) := fdn (hF 44 (by decide) (hr 44 (by kernel_rfl)))
              have d39 : a.tmps.getD 59 undef = (.bool true) := fdn (hF 39 (by decide) (hr 39 (by kernel_rfl)))
              subst hJ
              exact .inl ⟨(fun k b h => by cases h; exact ⟨39, by decide, rfl, d39⟩), .inl ⟨45, by decide, rfl, (.int .i64 py), W1.drew, (by simp [go_sem, Act.eval, d44, d39, cpB]), rfl, rfl⟩⟩
             ·have d39 : a.tmps.getD 59 undef = (.bool true) := fdn (hF 39 (by decide) (hr 39 (by kernel_rfl)))
              have f6 : a.tmps.getD 6 undef = (.pointer (some ⟨q, 0, none⟩)) := hf 6 (by kernel_rfl)
              subst hJ
              exact .inl ⟨(fun k b h => by cases h; exact ⟨39, by decide, rfl, d39⟩), .inl ⟨46, by decide, rfl, (.pointer (some ⟨q, 1, none⟩)), W1.drew, (by simp [go_sem, Act.eval, d39, f6]), rfl, rfl⟩⟩
             ·have d46 : a.tmps.getD 66 undef = (.pointer (some ⟨q, 1, none⟩)) := fdn (hF 46 (by decide) (hr 46 (by kernel_rfl)))
              have d39 : a.tmps.getD 59 undef = (.bool true) := fdn (hF 39 (by decide) (hr 39 (by kernel_rfl)))
              subst hJ
              exact .inl ⟨(fun k b h => by cases h; exact ⟨39, by decide, rfl, d39⟩), .inl ⟨47, by decide, rfl, (.int .i64 y), W1.drew, (by simp [go_sem, Act.eval, d46, d39, cq1]), rfl, rfl⟩⟩
             ·have d45 : a.tmps.getD 65 undef = (.int .i64 py) := fdn (hF 45 (by decide) (hr 45 (by kernel_rfl)))
              have d47 : a.tmps.getD 67 undef = (.int .i64 y) := fdn (hF 47 (by decide) (hr 47 (by kernel_rfl)))
              have d39 : a.tmps.getD 59 undef = (.bool true) := fdn (hF 39 (by decide) (hr 39 (by kernel_rfl)))
              subst hJ
              exact .inl ⟨(fun k b h => by cases h; exact ⟨39, by decide, rfl, d39⟩), .inl ⟨48, by decide, rfl, (.bool true), W1.drew, (by simp [go_sem, Act.eval, d45, d47, d39, c7]), rfl, rfl⟩⟩
             ·have d39 : a.tmps.getD 59 undef = (.bool true) := fdn (hF 39 (by decide) (hr 39 (by kernel_rfl)))
              have d48 : a.tmps.getD 68 undef = (.bool true) := fdn (hF 48 (by decide) (hr 48 (by kernel_rfl)))
              have d29 : a.tmps.getD 49 undef = (.bool false) := fdn (hF 29 (by decide) (hr 29 (by kernel_rfl)))
              subst hJ
              exact .inl ⟨(fun k b h => by cases h; exact ⟨29, by decide, rfl, d29⟩), .inl ⟨49, by decide, rfl, (.bool true), W1.drew, (by simp [go_sem, Act.eval, d39, d48, d29]), rfl, rfl⟩⟩
             ·have d29 : a.tmps.getD 49 undef = (.bool false) := fdn (hF 29 (by decide) (hr 29 (by kernel_rfl)))
              have d49 : a.tmps.getD 69 undef = (.bool true) := fdn (hF 49 (by decide) (hr 49 (by kernel_rfl)))
              have d19 : a.tmps.getD 39 undef = (.bool true) := fdn (hF 19 (by decide) (hr 19 (by kernel_rfl)))
              subst hJ
              exact .inl ⟨(fun k b h => by cases h; exact ⟨19, by decide, rfl, d19⟩), .inl ⟨50, by decide, rfl, (.bool true), W1.drew, (by simp [go_sem, Act.eval, d29, d49, d19]), rfl, rfl⟩⟩
             ·have d19 : a.tmps.getD 39 undef = (.bool true) := fdn (hF 19 (by decide) (hr 19 (by kernel_rfl)))
              have d50 : a.tmps.getD 70 undef = (.bool true) := fdn (hF 50 (by decide) (hr 50 (by kernel_rfl)))
              have d16 : a.tmps.getD 36 undef = (.bool false) := fdn (hF 16 (by decide) (hr 16 (by kernel_rfl)))
              subst hJ
              exact .inl ⟨(fun k b h => by cases h; exact ⟨16, by decide, rfl, d16⟩), .inl ⟨51, by decide, rfl, (.bool true), W1.drew, (by simp [go_sem, Act.eval, d19, d50, d16]), rfl, rfl⟩⟩
             ·have d16 : a.tmps.getD 36 undef = (.bool false) := fdn (hF 16 (by decide) (hr 16 (by kernel_rfl)))
              have d51 : a.tmps.getD 71 undef = (.bool true) := fdn (hF 51 (by decide) (hr 51 (by kernel_rfl)))
              subst hJ
              exact .inl ⟨(fun k b h => by cases h), .inl ⟨52, by decide, rfl, (.bool true), W1.drew, (by simp [go_sem, Act.eval, d16, d51]), rfl, rfl⟩⟩
            case finut =>
             intro d vs Wut hall hJ hF
             have h0 : vs 0 = (.pointer (some ⟨q, 0, none⟩)) := hF 0 (by decide)
             have h1 : vs 1 = (.int .i64 x) := hF 1 (by decide)
             have h2 : vs 2 = (.bool false) := hF 2 (by decide)
             have h3 : vs 3 = (.bool false) := hF 3 (by decide)
             have h4 : vs 4 = (.pointer (some ⟨q, 0, none⟩)) := hF 4 (by decide)
             have h5 : vs 5 = (.int .i64 x) := hF 5 (by decide)
             have h6 : vs 6 = (.pointer (some ⟨q, 1, none⟩)) := hF 6 (by decide)
             have h7 : vs 7 = (.int .i64 y) := hF 7 (by decide)
             have h8 : vs 8 = (.bool false) := hF 8 (by decide)
             have h9 : vs 9 = (.bool false) := hF 9 (by decide)
             have h10 : vs 10 = (.bool false) := hF 10 (by decide)
             have h11 : vs 11 = (.pointer (some ⟨q, 1, none⟩)) := hF 11 (by decide)
             have h12 : vs 12 = (.int .i64 y) := hF 12 (by decide)
             have h13 : vs 13 = (.int .i64 n) := hF 13 (by decide)
             have h14 : vs 14 = (.bool false) := hF 14 (by decide)
             have h15 : vs 15 = (.bool false) := hF 15 (by decide)
             have h16 : vs 16 = (.bool false) := hF 16 (by decide)
             have h17 : vs 17 = (.int .i64 (k : Int)) := hF 17 (by decide)
             have h18 : vs 18 = (.bool true) := hF 18 (by decide)
             have h19 : vs 19 = (.bool true) := hF 19 (by decide)
             have h20 : vs 20 = (.slice (some ⟨bl, ol, none⟩) m ac) := hF 20 (by decide)
             have h21 : vs 21 = (.int .i64 (k : Int)) := hF 21 (by decide)
             have h22 : vs 22 = (.int .i64 (kp : Int)) := hF 22 (by decide)
             have h23 : vs 23 = (.pointer (some ⟨bl, ol + kp * 2, none⟩)) := hF 23 (by decide)
             have h24 : vs 24 = (.pointer (some ⟨bl, ol + kp * 2, none⟩)) := hF 24 (by decide)
             have h25 : vs 25 = (.int .i64 px) := hF 25 (by decide)
             have h26 : vs 26 = (.pointer (some ⟨q, 0, none⟩)) := hF 26 (by decide)
             have h27 : vs 27 = (.int .i64 x) := hF 27 (by decide)
             have h28 : vs 28 = (.bool false) := hF 28 (by decide)
             have h29 : vs 29 = (.bool false) := hF 29 (by decide)
             have h30 : vs 30 = (.slice (some ⟨bl, ol, none⟩) m ac) := hF 30 (by decide)
             have h31 : vs 31 = (.int .i64 (k : Int)) := hF 31 (by decide)
             have h32 : vs 32 = (.int .i64 (kp : Int)) := hF 32 (by decide)
             have h33 : vs 33 = (.pointer (some ⟨bl, ol + kp * 2, none⟩)) := hF 33 (by decide)
             have h34 : vs 34 = (.pointer (some ⟨bl, ol + kp * 2, none⟩)) := hF 34 (by decide)
             have h35 : vs 35 = (.int .i64 px) := hF 35 (by decide)
             have h36 : vs 36 = (.pointer (some ⟨q, 0, none⟩)) := hF 36 (by decide)
             have h37 : vs 37 = (.int .i64 x) := hF 37 (by decide)
             have h38 : vs 38 = (.bool true) := hF 38 (by decide)
             have h39 : vs 39 = (.bool true) := hF 39 (by decide)
             have h40 : vs 40 = (.slice (some ⟨bl, ol, none⟩) m ac) := hF 40 (by decide)
             have h41 : vs 41 = (.int .i64 (k : Int)) := hF 41 (by decide)
             have h42 : vs 42 = (.int .i64 (kp : Int)) := hF 42 (by decide)
             have h43 : vs 43 = (.pointer (some ⟨bl, ol + kp * 2, none⟩)) := hF 43 (by decide)
             have h44 : vs 44 = (.pointer (some ⟨bl, ol + kp * 2 + 1, none⟩)) := hF 44 (by decide)
             have h45 : vs 45 = (.int .i64 py) := hF 45 (by decide)
             have h46 : vs 46 = (.pointer (some ⟨q, 1, none⟩)) := hF 46 (by decide)
             have h47 : vs 47 = (.int .i64 y) := hF 47 (by decide)
             have h48 : vs 48 = (.bool true) := hF 48 (by decide)
             have h49 : vs 49 = (.bool true) := hF 49 (by decide)
             have h50 : vs 50 = (.bool true) := hF 50 (by decide)
             have h51 : vs 51 = (.bool true) := hF 51 (by decide)
             have h52 : vs 52 = (.bool true) := hF 52 (by decide)
             clear hF
             show (_ : Exit → Act → World → Prop) Exit.normal (puts _ vs 53 _) Wut
             simp only [puts, h0, h1, h2, h3, h4, h5, h6, h7, h8, h9, h10, h11, h12, h13, h14, h15, h16, h17, h18, h19, h20, h21, h22, h23, h24, h25, h26, h27, h28, h29, h30, h31, h32, h33, h34, h35, h36, h37, h38, h39, h40, h41, h42, h43, h44, h45, h46, h47, h48, h49, h50, h51, h52, List.getD_cons_zero, List.getD_cons_succ]
             clear h0 h1 h2 h3 h4 h5 h6 h7 h8 h9 h10 h11 h12 h13 h14 h15 h16 h17 h18 h19 h20 h21 h22 h23 h24 h25 h26 h27 h28 h29 h30 h31 h32 h33 h34 h35 h36 h37 h38 h39 h40 h41 h42 h43 h44 h45 h46 h47 h48 h49 h50 h51 h52
             subst hJ
             simp only [Act.put, List.setIfInBounds_toArray, List.set_cons_succ, List.set_cons_zero]
             clear hall
             go_wp2_with (fail)
             go_ret
             rw [HE.out]
             exact ⟨rfl, HB2.out⟩
           ·
            have HE := Lib.hid (HOK.out (by unfold fitAt; rw [← HXY.out.1, ← HXY.out.2, ← HPP.out.1, ← HPP.out.2]; omega))
            go_wp2_with (fail)
            rw [← HQ.out, ← HW1.out]
            refine wpIn_wide (n := 5).1 (wpIn_flowM (F0 := Fence.wide) (n0 := 5) (fun _ => trivial) (fun h => by cases h) (by kernel_rfl) (by kernel_rfl) 53 53 (by kernel_rfl) (fun j => ([0, 1, 2, 3, 4, 5, 6, 7, 8, 9, 10, 11, 12, 13, 14, 15, 16, 17, 18, 19, 20, 21, 22, 23, 24, 25, 26, 27, 28, 29, 30, 31, 32, 33, 34, 35, 36, 37, 38, 39, 40, 41, 42, 43, 44, 45, 46, 47, 48, 49, 50, 51, 52] : List Nat).getD j 0) (fun j => ([20, 21, 22, 23, 24, 25, 26, 27, 28, 29, 30, 31, 32, 33, 34, 35, 36, 37, 38, 39, 40, 41, 42, 43, 44, 45, 46, 47, 48, 49, 50, 51, 52, 53, 54, 55, 56, 57, 58, 59, 60, 61, 62, 63, 64, 65, 66, 67, 68, 69, 70, 71, 72] : List Nat).getD j 0) (by kernel_rfl) (by kernel_rfl) (by kernel_rfl) (by kernel_rfl) (by kernel_rfl) (by kernel_rfl) (by kernel_rfl) (fun j zv => ([(fun zv => zv = (.pointer (some ⟨q, 0, none⟩))), (fun zv => zv = (.int .i64 x)), (fun zv => zv = (.bool false)), (fun zv => zv = (.bool false)), (fun zv => zv = (.pointer (some ⟨q, 0, none⟩))), (fun zv => zv = (.int .i64 x)), (fun zv => zv = (.pointer (some ⟨q, 1, none⟩))), (fun zv => zv = (.int .i64 y)), (fun zv => zv = (.bool false)), (fun zv => zv = (.bool false)), (fun zv => zv = (.bool false)), (fun zv => zv = (.pointer (some ⟨q, 1, none⟩))), (fun zv => zv = (.int .i64 y)), (fun zv => zv = (.int .i64 n)), (fun zv => zv = (.bool false)), (fun zv => zv = (.bool false)), (fun zv => zv = (.bool false)), (fun zv => zv = (.int .i64 (k : Int))), (fun zv => zv = (.bool true)), (fun zv => zv = (.bool true)), (fun zv => zv = (.slice (some ⟨bl, ol, none⟩) m ac)), (fun zv => zv = (.int .i64 (k : Int))), (fun zv => zv = (.int .i64 (kp : Int))), (fun zv => zv = (.pointer (some ⟨bl, ol + kp * 2, none⟩))), (fun zv => zv = (.pointer (some ⟨bl, ol + kp * 2, none⟩))), (fun zv => zv = (.int .i64 px)), (fun zv => zv = (.pointer (some ⟨q, 0, none⟩))), (fun zv => zv = (.int .i64 x)), (fun zv => zv = (.bool false)), (fun zv => zv = (.bool false)), (fun zv => zv = (.slice (some ⟨bl, ol, none⟩) m ac)), (fun zv => zv = (.int .i64 (k : Int))), (fun zv => zv = (.int .i64 (kp : Int))), (fun zv => zv = (.pointer (some ⟨bl, ol + kp * 2, none⟩))), (fun zv => zv = (.pointer (some ⟨bl, ol + kp * 2, none⟩))), (fun zv => zv = (.int .i64 px)), (fun zv => zv = (.pointer (some ⟨q, 0, none⟩))), (fun zv => zv = (.int .i64 x)), (fun zv => zv = (.bool true)), (fun zv => zv = (.bool true)), (fun zv => zv = (.slice (some ⟨bl, ol, none⟩) m ac)), (fun zv => zv = (.int .i64 (k : Int))), (fun zv => zv = (.int .i64 (kp : Int))), (fun zv => zv = (.pointer (some ⟨bl, ol + kp * 2, none⟩))), (fun zv => zv = (.pointer (some ⟨bl, ol + kp * 2 + 1, none⟩))), (fun zv => zv = (.int .i64 py)), (fun zv => zv = (.pointer (some ⟨q, 1, none⟩))), (fun zv => zv = (.int .i64 y)), (fun zv => zv = (.bool false)), (fun zv => zv = (.bool false)), (fun zv => zv = (.bool false)), (fun zv => zv = (.bool false)), (fun zv => zv = (.bool false))] : List (Value → Prop)).getD j (fun _ => True) zv) (fun _ _ W => W = W1.drew) ?h0tt ?steptt ?fintt)
            case h0tt => exact fun _ => rfl
            case steptt =>
             intro i o a W d vs hi ho hdi hJ hf hr hF
             replace hi : i < 53 := hi
             rcases (show i = 0 ∨ i = 1 ∨ i = 2 ∨ i = 3 ∨ i = 4 ∨ i = 5 ∨ i = 6 ∨ i = 7 ∨ i = 8 ∨ i = 9 ∨ i = 10 ∨ i = 11 ∨ i = 12 ∨ i = 13 ∨ i = 14 ∨ i = 15 ∨ i = 16 ∨ i = 17 ∨ i = 18 ∨ i = 19 ∨ i = 20 ∨ i = 21 ∨ i = 22 ∨ i = 23 ∨ i = 24 ∨ i = 25 ∨ i = 26 ∨ i = 27 ∨ i = 28 ∨ i = 29 ∨ i = 30 ∨ i = 31 ∨ i = 32 ∨ i = 33 ∨ i = 34 ∨ i = 35 ∨ i = 36 ∨ i = 37 ∨ i = 38 ∨ i = 39 ∨ i = 40 ∨ i = 41 ∨ i = 42 ∨ i = 43 ∨ i = 44 ∨ i = 45 ∨ i = 46 ∨ i = 47 ∨ i = 48 ∨ i = 49 ∨ i = 50 ∨ i = 51 ∨ i = 52 by omega) with rfl | rfl | rfl | rfl | rfl | rfl | rfl | rfl | rfl | rfl | rfl | rfl | rfl | rfl | rfl | rfl | rfl | rfl | rfl | rfl | rfl | rfl | rfl | rfl | rfl | rfl | rfl | rfl | rfl | rfl | rfl | rfl | rfl | rfl | rfl | rfl | rfl | rfl | rfl | rfl | rfl | rfl | rfl | rfl | rfl | rfl | rfl | rfl | rfl | rfl | rfl | rfl | rfl
             all_goals
              replace ho := op_at ho (by rfl)
              subst ho
             ·have f6 : a.tmps.getD 6 undef = (.pointer (some ⟨q, 0, none⟩)) := hf 6 (by kernel_rfl)
              subst hJ
              exact .inl ⟨(fun k b h => by cases h), .inl ⟨0, by decide, rfl, (.pointer (some ⟨q, 0, none⟩)), W1.drew, (by simp [go_sem, Act.eval, f6]), rfl, rfl⟩⟩
             ·have d0 : a.tmps.getD 20 undef = (.pointer (some ⟨q, 0, none⟩)) := fdn (hF 0 (by decide) (hr 0 (by kernel_rfl)))
              subst hJ
              exact .inl ⟨(fun k b h => by cases h), .inl ⟨1, by decide, rfl, (.int .i64 x), W1.drew, (by simp [go_sem, Act.eval, d0, cq0]), rfl, rfl⟩⟩
             ·have d1 : a.tmps.getD 21 undef = (.int .i64 x) := fdn (hF 1 (by decide) (hr 1 (by kernel_rfl)))
              subst hJ
              exact .inl ⟨(fun k b h => by cases h), .inl ⟨2, by decide, rfl, (.bool false), W1.drew, (by simp [go_sem, Act.eval, d1, c1]), rfl, rfl⟩⟩
             ·have d2 : a.tmps.getD 22 undef = (.bool false) := fdn (hF 2 (by decide) (hr 2 (by kernel_rfl)))
              subst hJ
              exact .inl ⟨(fun k b h => by cases h), .inl ⟨3, by decide, rfl, (.bool false), W1.drew, (by simp [go_sem, Act.eval, d2]), rfl, rfl⟩⟩
             ·have d3 : a.tmps.getD 23 undef = (.bool false) := fdn (hF 3 (by decide) (hr 3 (by kernel_rfl)))
              have f6 : a.tmps.getD 6 undef = (.pointer (some ⟨q, 0, none⟩)) := hf 6 (by kernel_rfl)
              subst hJ
              exact .inl ⟨(fun k b h => by cases h; exact ⟨3, by decide, rfl, d3⟩), .inl ⟨4, by decide, rfl, (.pointer (some ⟨q, 0, none⟩)), W1.drew, (by simp [go_sem, Act.eval, d3, f6]), rfl, rfl⟩⟩
             ·have d4 : a.tmps.getD 24 undef = (.pointer (some ⟨q, 0, none⟩)) := fdn (hF 4 (by decide) (hr 4 (by kernel_rfl)))
              have d3 : a.tmps.getD 23 undef = (.bool false) := fdn (hF 3 (by decide) (hr 3 (by kernel_rfl)))
              subst hJ
              exact .inl ⟨(fun k b h => by cases h; exact ⟨3, by decide, rfl, d3⟩), .inl ⟨5, by decide, rfl, (.int .i64 x), W1.drew, (by simp [go_sem, Act.eval, d4, d3, cq0]), rfl, rfl⟩⟩
             ·have d3 : a.tmps.getD 23 undef = (.bool false) := fdn (hF 3 (by decide) (hr 3 (by kernel_rfl)))
              have f6 : a.tmps.getD 6 undef = (.pointer (some ⟨q, 0, none⟩)) := hf 6 (by kernel_rfl)
              subst hJ
              exact .inl ⟨(fun k b h => by cases h; exact ⟨3, by decide, rfl, d3⟩), .inl ⟨6, by decide, rfl, (.pointer (some ⟨q, 1, none⟩)), W1.drew, (by simp [go_sem, Act.eval, d3, f6]), rfl, rfl⟩⟩
             ·have d6 : a.tmps.getD 26 undef = (.pointer (some ⟨q, 1, none⟩)) := fdn (hF 6 (by decide) (hr 6 (by kernel_rfl)))
              have d3 : a.tmps.getD 23 undef = (.bool false) := fdn (hF 3 (by decide) (hr 3 (by kernel_rfl)))
              subst hJ
              exact .inl ⟨(fun k b h => by cases h; exact ⟨3, by decide, rfl, d3⟩), .inl ⟨7, by decide, rfl, (.int .i64 y), W1.drew, (by simp [go_sem, Act.eval, d6, d3, cq1]), rfl, rfl⟩⟩
             ·have d5 : a.tmps.getD 25 undef = (.int .i64 x) := fdn (hF 5 (by decide) (hr 5 (by kernel_rfl)))
              have d7 : a.tmps.getD 27 undef = (.int .i64 y) := fdn (hF 7 (by decide) (hr 7 (by kernel_rfl)))
              have d3 : a.tmps.getD 23 undef = (.bool false) := fdn (hF 3 (by decide) (hr 3 (by kernel_rfl)))
              subst hJ
              exact .inl ⟨(fun k b h => by cases h; exact ⟨3, by decide, rfl, d3⟩), .inl ⟨8, by decide, rfl, (.bool false), W1.drew, (by simp [go_sem, Act.eval, d5, d7, d3, c2]), rfl, rfl⟩⟩
             ·have d3 : a.tmps.getD 23 undef = (.bool false) := fdn (hF 3 (by decide) (hr 3 (by kernel_rfl)))
              have d8 : a.tmps.getD 28 undef = (.bool false) := fdn (hF 8 (by decide) (hr 8 (by kernel_rfl)))
              subst hJ
              exact .inl ⟨(fun k b h => by cases h), .inl ⟨9, by decide, rfl, (.bool false), W1.drew, (by simp [go_sem, Act.eval, d3, d8]), rfl, rfl⟩⟩
             ·have d9 : a.tmps.getD 29 undef = (.bool false) := fdn (hF 9 (by decide) (hr 9 (by kernel_rfl)))
              subst hJ
              exact .inl ⟨(fun k b h => by cases h), .inl ⟨10, by decide, rfl, (.bool false), W1.drew, (by simp [go_sem, Act.eval, d9]), rfl, rfl⟩⟩
             ·have d10 : a.tmps.getD 30 undef = (.bool false) := fdn (hF 10 (by decide) (hr 10 (by kernel_rfl)))
              have f6 : a.tmps.getD 6 undef = (.pointer (some ⟨q, 0, none⟩)) := hf 6 (by kernel_rfl)
              subst hJ
              exact .inl ⟨(fun k b h => by cases h; exact ⟨10, by decide, rfl, d10⟩), .inl ⟨11, by decide, rfl, (.pointer (some ⟨q, 1, none⟩)), W1.drew, (by simp [go_sem, Act.eval, d10, f6]), rfl, rfl⟩⟩
             ·have d11 : a.tmps.getD 31 undef = (.pointer (some ⟨q, 1, none⟩)) := fdn (hF 11 (by decide) (hr 11 (by kernel_rfl)))
              have d10 : a.tmps.getD 30 undef = (.bool false) := fdn (hF 10 (by decide) (hr 10 (by kernel_rfl)))
              subst hJ
              exact .inl ⟨(fun k b h => by cases h; exact ⟨10, by decide, rfl, d10⟩), .inl ⟨12, by decide, rfl, (.int .i64 y), W1.drew, (by simp [go_sem, Act.eval, d11, d10, cq1]), rfl, rfl⟩⟩
             ·have d10 : a.tmps.getD 30 undef = (.bool false) := fdn (hF 10 (by decide) (hr 10 (by kernel_rfl)))
              have f0 : a.tmps.getD 0 undef = (.int .i64 n) := hf 0 (by kernel_rfl)
              subst hJ
              exact .inl ⟨(fun k b h => by cases h; exact ⟨10, by decide, rfl, d10⟩), .inl ⟨13, by decide, rfl, (.int .i64 n), W1.drew, (by simp [go_sem, Act.eval, d10, f0]), rfl, rfl⟩⟩
             ·have d12 : a.tmps.getD 32 undef = (.int .i64 y) := fdn (hF 12 (by decide) (hr 12 (by kernel_rfl)))
              have d13 : a.tmps.getD 33 undef = (.int .i64 n) := fdn (hF 13 (by decide) (hr 13 (by kernel_rfl)))
              have d10 : a.tmps.getD 30 undef = (.bool false) := fdn (hF 10 (by decide) (hr 10 (by kernel_rfl)))
              subst hJ
              exact .inl ⟨(fun k b h => by cases h; exact ⟨10, by decide, rfl, d10⟩), .inl ⟨14, by decide, rfl, (.bool false), W1.drew, (by simp [go_sem, Act.eval, d12, d13, d10, c3]), rfl, rfl⟩⟩
             ·have d10 : a.tmps.getD 30 undef = (.bool false) := fdn (hF 10 (by decide) (hr 10 (by kernel_rfl)))
              have d14 : a.tmps.getD 34 undef = (.bool false) := fdn (hF 14 (by decide) (hr 14 (by kernel_rfl)))
              subst hJ
              exact .inl ⟨(fun k b h => by cases h), .inl ⟨15, by decide, rfl, (.bool false), W1.drew, (by simp [go_sem, Act.eval, d10, d14]), rfl, rfl⟩⟩
             ·have d15 : a.tmps.getD 35 undef = (.bool false) := fdn (hF 15 (by decide) (hr 15 (by kernel_rfl)))
              subst hJ
              exact .inl ⟨(fun k b h => by cases h), .inl ⟨16, by decide, rfl, (.bool false), W1.drew, (by simp [go_sem, Act.eval, d15]), rfl, rfl⟩⟩
             ·have d16 : a.tmps.getD 36 undef = (.bool false) := fdn (hF 16 (by decide) (hr 16 (by kernel_rfl)))
              have f5 : a.tmps.getD 5 undef = (.int .i64 (k : Int)) := hf 5 (by kernel_rfl)
              subst hJ
              exact .inl ⟨(fun k b h => by cases h; exact ⟨16, by decide, rfl, d16⟩), .inl ⟨17, by decide, rfl, (.int .i64 (k : Int)), W1.drew, (by simp [go_sem, Act.eval, d16, f5]), rfl, rfl⟩⟩
             ·have d17 : a.tmps.getD 37 undef = (.int .i64 (k : Int)) := fdn (hF 17 (by decide) (hr 17 (by kernel_rfl)))
              have d16 : a.tmps.getD 36 undef = (.bool false) := fdn (hF 16 (by decide) (hr 16 (by kernel_rfl)))
              subst hJ
              exact .inl ⟨(fun k b h => by cases h; exact ⟨16, by decide, rfl, d16⟩), .inl ⟨18, by decide, rfl, (.bool true), W1.drew, (by simp [go_sem, Act.eval, d17, d16, c4]), rfl, rfl⟩⟩
             ·have d18 : a.tmps.getD 38 undef = (.bool true) := fdn (hF 18 (by decide) (hr 18 (by kernel_rfl)))
              have d16 : a.tmps.getD 36 undef = (.bool false) := fdn (hF 16 (by decide) (hr 16 (by kernel_rfl)))
              subst hJ
              exact .inl ⟨(fun k b h => by cases h; exact ⟨16, by decide, rfl, d16⟩), .inl ⟨19, by decide, rfl, (.bool true), W1.drew, (by simp [go_sem, Act.eval, d18, d16]), rfl, rfl⟩⟩
             ·have d19 : a.tmps.getD 39 undef = (.bool true) := fdn (hF 19 (by decide) (hr 19 (by kernel_rfl)))
              have f1 : a.tmps.getD 1 undef = (.slice (some ⟨bl, ol, none⟩) m ac) := hf 1 (by kernel_rfl)
              subst hJ
              exact .inl ⟨(fun k b h => by cases h; exact ⟨19, by decide, rfl, d19⟩), .inl ⟨20, by decide, rfl, (.slice (some ⟨bl, ol, none⟩) m ac), W1.drew, (by simp [go_sem, Act.eval, d19, f1]), rfl, rfl⟩⟩
             ·have d19 : a.tmps.getD 39 undef = (.bool true) := fdn (hF 19 (by decide) (hr 19 (by kernel_rfl)))
              have f5 : a.tmps.getD 5 undef = (.int .i64 (k : Int)) := hf 5 (by kernel_rfl)
              subst hJ
              exact .inl ⟨(fun k b h => by cases h; exact ⟨19, by decide, rfl, d19⟩), .inl ⟨21, by decide, rfl, (.int .i64 (k : Int)), W1.drew, (by simp [go_sem, Act.eval, d19, f5]), rfl, rfl⟩⟩
             ·have d21 : a.tmps.getD 41 undef = (.int .i64 (k : Int)) := fdn (hF 21 (by decide) (hr 21 (by kernel_rfl)))
              have d19 : a.tmps.getD 39 undef = (.bool true) := fdn (hF 19 (by decide) (hr 19 (by kernel_rfl)))
              subst hJ
              exact .inl ⟨(fun k b h => by cases h; exact ⟨19, by decide, rfl, d19⟩), .inl ⟨22, by decide, rfl, (.int .i64 (kp : Int)), W1.drew, (by simp [go_sem, Act.eval, d21, d19, hj]), rfl, rfl⟩⟩
             ·have d20 : a.tmps.getD 40 undef = (.slice (some ⟨bl, ol, none⟩) m ac) := fdn (hF 20 (by decide) (hr 20 (by kernel_rfl)))
              have d22 : a.tmps.getD 42 undef = (.int .i64 (kp : Int)) := fdn (hF 22 (by decide) (hr 22 (by kernel_rfl)))
              have d19 : a.tmps.getD 39 undef = (.bool true) := fdn (hF 19 (by decide) (hr 19 (by kernel_rfl)))
              subst hJ
              exact .inl ⟨(fun k b h => by cases h; exact ⟨19, by decide, rfl, d19⟩), .inl ⟨23, by decide, rfl, (.pointer (some ⟨bl, ol + kp * 2, none⟩)), W1.drew, (by simp [go_sem, Act.eval, d20, d22, d19, hjm]), rfl, rfl⟩⟩
             ·have d23 : a.tmps.getD 43 undef = (.pointer (some ⟨bl, ol + kp * 2, none⟩)) := fdn (hF 23 (by decide) (hr 23 (by kernel_rfl)))
              have d19 : a.tmps.getD 39 undef = (.bool true) := fdn (hF 19 (by decide) (hr 19 (by kernel_rfl)))
              subst hJ
              exact .inl ⟨(fun k b h => by cases h; exact ⟨19, by decide, rfl, d19⟩), .inl ⟨24, by decide, rfl, (.pointer (some ⟨bl, ol + kp * 2, none⟩)), W1.drew, (by simp [go_sem, Act.eval, d23, d19]), rfl, rfl⟩⟩
             ·have d24 : a.tmps.getD 44 undef = (.pointer (some ⟨bl, ol + kp * 2, none⟩)) := fdn (hF 24 (by decide) (hr 24 (by kernel_rfl)))
              have d19 : a.tmps.getD 39 undef = (.bool true) := fdn (hF 19 (by decide) (hr 19 (by kernel_rfl)))
              subst hJ
              exact .inl ⟨(fun k b h => by cases h; exact ⟨19, by decide, rfl, d19⟩), .inl ⟨25, by decide, rfl, (.int .i64 px), W1.drew, (by simp [go_sem, Act.eval, d24, d19, cpA]), rfl, rfl⟩⟩
             ·have d19 : a.tmps.getD 39 undef = (.bool true) := fdn (hF 19 (by decide) (hr 19 (by kernel_rfl)))
              have f6 : a.tmps.getD 6 undef = (.pointer (some ⟨q, 0, none⟩)) := hf 6 (by kernel_rfl)
              subst hJ
              exact .inl ⟨(fun k b h => by cases h; exact ⟨19, by decide, rfl, d19⟩), .inl ⟨26, by decide, rfl, (.pointer (some ⟨q, 0, none⟩)), W1.drew, (by simp [go_sem, Act.eval, d19, f6]), rfl, rfl⟩⟩
             ·have d26 : a.tmps.getD 46 undef = (.pointer (some ⟨q, 0, none⟩)) := fdn (hF 26 (by decide) (hr 26 (by kernel_rfl)))
              have d19 : a.tmps.getD 39 undef = (.bool true) := fdn (hF 19 (by decide) (hr 19 (by kernel_rfl)))
              subst hJ
              exact .inl ⟨(fun k b h => by cases h; exact ⟨19, by decide, rfl, d19⟩), .inl ⟨27, by decide, rfl, (.int .i64 x), W1.drew, (by simp [go_sem, Act.eval, d26, d19, cq0]), rfl, rfl⟩⟩
             ·have d25 : a.tmps.getD 45 undef = (.int .i64 px) := fdn (hF 25 (by decide) (hr 25 (by kernel_rfl)))
              have d27 : a.tmps.getD 47 undef = (.int .i64 x) := fdn (hF 27 (by decide) (hr 27 (by kernel_rfl)))
              have d19 : a.tmps.getD 39 undef = (.bool true) := fdn (hF 19 (by decide) (hr 19 (by kernel_rfl)))
              subst hJ
              exact .inl ⟨(fun k b h => by cases h; exact ⟨19, by decide, rfl, d19⟩), .inl ⟨28, by decide, rfl, (.bool false), W1.drew, (by simp [go_sem, Act.eval, d25, d27, d19, c5]), rfl, rfl⟩⟩
             ·have d28 : a.tmps.getD 48 undef = (.bool false) := fdn (hF 28 (by decide) (hr 28 (by kernel_rfl)))
              have d19 : a.tmps.getD 39 undef = (.bool true) := fdn (hF 19 (by decide) (hr 19 (by kernel_rfl)))
              subst hJ
              exact .inl ⟨(fun k b h => by cases h; exact ⟨19, by decide, rfl, d19⟩), .inl ⟨29, by decide, rfl, (.bool false), W1.drew, (by simp [go_sem, Act.eval, d28, d19]), rfl, rfl⟩⟩
             ·have d29 : a.tmps.getD 49 undef = (.bool false) := fdn (hF 29 (by decide) (hr 29 (by kernel_rfl)))
              have f1 : a.tmps.getD 1 undef = (.slice (some ⟨bl, ol, none⟩) m ac) := hf 1 (by kernel_rfl)
              subst hJ
              exact .inl ⟨(fun k b h => by cases h; exact ⟨29, by decide, rfl, d29⟩), .inl ⟨30, by decide, rfl, (.slice (some ⟨bl, ol, none⟩) m ac), W1.drew, (by simp [go_sem, Act.eval, d29, f1]), rfl, rfl⟩⟩
             ·have d29 : a.tmps.getD 49 undef = (.bool false) := fdn (hF 29 (by decide) (hr 29 (by kernel_rfl)))
              have f5 : a.tmps.getD 5 undef = (.int .i64 (k : Int)) := hf 5 (by kernel_rfl)
              subst hJ
              exact .inl ⟨(fun k b h => by cases h; exact ⟨29, by decide, rfl, d29⟩), .inl ⟨31, by decide, rfl, (.int .i64 (k : Int)), W1.drew, (by simp [go_sem, Act.eval, d29, f5]), rfl, rfl⟩⟩
             ·have d31 : a.tmps.getD 51 undef = (.int .i64 (k : Int)) := fdn (hF 31 (by decide) (hr 31 (by kernel_rfl)))
              have d29 : a.tmps.getD 49 undef = (.bool false) := fdn (hF 29 (by decide) (hr 29 (by kernel_rfl)))
              subst hJ
              exact .inl ⟨(fun k b h => by cases h; exact ⟨29, by decide, rfl, d29⟩), .inl ⟨32, by decide, rfl, (.int .i64 (kp : Int)), W1.drew, (by simp [go_sem, Act.eval, d31, d29, hj]), rfl, rfl⟩⟩
             ·have d30 : a.tmps.getD 50 undef = (.slice (some ⟨bl, ol, none⟩) m ac) := fdn (hF 30 (by decide) (hr 30 (by kernel_rfl)))
              have d32 : a.tmps.getD 52 undef = (.int .i64 (kp : Int)) := fdn (hF 32 (by decide) (hr 32 (by kernel_rfl)))
              have d29 : a.tmps.getD 49 undef = (.bool false) := fdn (hF 29 (by decide) (hr 29 (by kernel_rfl)))
              subst hJ
              exact .inl ⟨(fun k b h => by cases h; exact ⟨29, by decide, rfl, d29⟩), .inl ⟨33, by decide, rfl, (.pointer (some ⟨bl, ol + kp * 2, none⟩)), W1.drew, (by simp [go_sem, Act.eval, d30, d32, d29, hjm]), rfl, rfl⟩⟩
             ·have d33 : a.tmps.getD 53 undef = (.pointer (some ⟨bl, ol + kp * 2, none⟩)) := fdn (hF 33 (by decide) (hr 33 (by kernel_rfl)))
              have d29 : a.tmps.getD 49 undef = (.bool false) := fdn (hF 29 (by decide) (hr 29 (by kernel_rfl)))
              subst hJ
              exact .inl ⟨(fun k b h => by cases h; exact ⟨29, by decide, rfl, d29⟩), .inl ⟨34, by decide, rfl, (.pointer (some ⟨bl, ol + kp * 2, none⟩)), W1.drew, (by simp [go_sem, Act.eval, d33, d29]), rfl, rfl⟩⟩
             ·have d34 : a.tmps.getD 54 undef = (.pointer (some ⟨bl, ol + kp * 2, none⟩)) := fdn (hF 34 (by decide) (hr 34 (by kernel_rfl)))
              have d29 : a.tmps.getD 49 undef = (.bool false) := fdn (hF 29 (by decide) (hr 29 (by kernel_rfl)))
              subst hJ
              exact .inl ⟨(fun k b h => by cases h; exact ⟨29, by decide, rfl, d29⟩), .inl ⟨35, by decide, rfl, (.int .i64 px), W1.drew, (by simp [go_sem, Act.eval, d34, d29, cpA]), rfl, rfl⟩⟩
             ·have d29 : a.tmps.getD 49 undef = (.bool false) := fdn (hF 29 (by decide) (hr 29 (by kernel_rfl)))
              have f6 : a.tmps.getD 6 undef = (.pointer (some ⟨q, 0, none⟩)) := hf 6 (by kernel_rfl)
              subst hJ
              exact .inl ⟨(fun k b h => by cases h; exact ⟨29, by decide, rfl, d29⟩), .inl ⟨36, by decide, rfl, (.pointer (some ⟨q, 0, none⟩)), W1.drew, (by simp [go_sem, Act.eval, d29, f6]), rfl, rfl⟩⟩
             ·have d36 : a.tmps.getD 56 undef = (.pointer (some ⟨q, 0, none⟩)) := fdn (hF 36 (by decide) (hr 36 (by kernel_rfl)))
              have d29 : a.tmps.getD 49 undef = (.bool false) := fdn (hF 29 (by decide) (hr 29 (by kernel_rfl)))
              subst hJ
              exact .inl ⟨(fun k b h => by cases h; exact ⟨29, by decide, rfl, d29⟩), .inl ⟨37, by decide, rfl, (.int .i64 x), W1.drew, (by simp [go_sem, Act.eval, d36, d29, cq0]), rfl, rfl⟩⟩
             ·have d35 : a.tmps.getD 55 undef = (.int .i64 px) := fdn (hF 35 (by decide) (hr 35 (by kernel_rfl)))
              have d37 : a.tmps.getD 57 undef = (.int .i64 x) := fdn (hF 37 (by decide) (hr 37 (by kernel_rfl)))
              have d29 : a.tmps.getD 49 undef = (.bool false) := fdn (hF 29 (by decide) (hr 29 (by kernel_rfl)))
              subst hJ
              exact .inl ⟨(fun k b h => by cases h; exact ⟨29, by decide, rfl, d29⟩), .inl ⟨38, by decide, rfl, (.bool true), W1.drew, (by simp [go_sem, Act.eval, d35, d37, d29, hpb]), rfl, rfl⟩⟩
             ·have d38 : a.tmps.getD 58 undef = (.bool true) := fdn (hF 38 (by decide) (hr 38 (by kernel_rfl)))
              have d29 : a.tmps.getD 49 undef = (.bool false) := fdn (hF 29 (by decide) (hr 29 (by kernel_rfl)))
              subst hJ
              exact .inl ⟨(fun k b h => by cases h; exact ⟨29, by decide, rfl, d29⟩), .inl ⟨39, by decide, rfl, (.bool true), W1.drew, (by simp [go_sem, Act.eval, d38, d29]), rfl, rfl⟩⟩
             ·have d39 : a.tmps.getD 59 undef = (.bool true) := fdn (hF 39 (by decide) (hr 39 (by kernel_rfl)))
              have f1 : a.tmps.getD 1 undef = (.slice (some ⟨bl, ol, none⟩) m ac) := hf 1 (by kernel_rfl)
              subst hJ
              exact .inl ⟨(fun k b h => by cases h; exact ⟨39, by decide, rfl, d39⟩), .inl ⟨40, by decide, rfl, (.slice (some ⟨bl, ol, none⟩) m ac), W1.drew, (by simp [go_sem, Act.eval, d39, f1]), rfl, rfl⟩⟩
             ·have d39 : a.tmps.getD 59 undef = (.bool true) := fdn (hF 39 (by decide) (hr 39 (by kernel_rfl)))
              have f5 : a.tmps.getD 5 undef = (.int .i64 (k : Int)) := hf 5 (by kernel_rfl)
              subst hJ
              exact .inl ⟨(fun k b h => by cases h; exact ⟨39, by decide, rfl, d39⟩), .inl ⟨41, by decide, rfl, (.int .i64 (k : Int)), W1.drew, (by simp [go_sem, Act.eval, d39, f5]), rfl, rfl⟩⟩
             ·have d41 : a.tmps.getD 61 undef = (.int .i64 (k : Int)) := fdn (hF 41 (by decide) (hr 41 (by kernel_rfl)))
              have d39 : a.tmps.getD 59 undef = (.bool true) := fdn (hF 39 (by decide) (hr 39 (by kernel_rfl)))
              subst hJ
              exact .inl ⟨(fun k b h => by cases h; exact ⟨39, by decide, rfl, d39⟩), .inl ⟨42, by decide, rfl, (.int .i64 (kp : Int)), W1.drew, (by simp [go_sem, Act.eval, d41, d39, hj]), rfl, rfl⟩⟩
             ·have d40 : a.tmps.getD 60 undef = (.slice (some ⟨bl, ol, none⟩) m ac) := fdn (hF 40 (by decide) (hr 40 (by kernel_rfl)))
              have d42 : a.tmps.getD 62 undef = (.int .i64 (kp : Int)) := fdn (hF 42 (by decide) (hr 42 (by kernel_rfl)))
              have d39 : a.tmps.getD 59 undef = (.bool true) := fdn (hF 39 (by decide) (hr 39 (by kernel_rfl)))
              subst hJ
              exact .inl ⟨(fun k b h => by cases h; exact ⟨39, by decide, rfl, d39⟩), .inl ⟨43, by decide, rfl, (.pointer (some ⟨bl, ol + kp * 2, none⟩)), W1.drew, (by simp [go_sem, Act.eval, d40, d42, d39, hjm]), rfl, rfl⟩⟩
             ·have d43 : a.tmps.getD 63 undef = (.pointer (some ⟨bl, ol + kp * 2, none⟩)) := fdn (hF 43 (by decide) (hr 43 (by kernel_rfl)))
              have d39 : a.tmps.getD 59 undef = (.bool true) := fdn (hF 39 (by decide) (hr 39 (by kernel_rfl)))
              subst hJ
              exact .inl ⟨(fun k b h => by cases h; exact ⟨39, by decide, rfl, d39⟩), .inl ⟨44, by decide, rfl, (.pointer (some ⟨bl, ol + kp * 2 + 1, none⟩)), W1.drew, (by simp [go_sem, Act.eval, d43, d39]), rfl, rfl⟩⟩
             ·have d44 : a.tmps.getD 64 undef = (.pointer (some ⟨bl, ol + kp * 2 + 1, none⟩)) := fdn (hF 44 (by decide) (hr 44 (by kernel_rfl)))
              have d39 : a.tmps.getD 59 undef = (.bool true) := fdn (hF 39 (by decide) (hr 39 (by kernel_rfl)))
              subst hJ
              exact .inl ⟨(fun k b h => by cases h; exact ⟨39, by decide, rfl, d39⟩), .inl ⟨45, by decide, rfl, (.int .i64 py), W1.drew, (by simp [go_sem, Act.eval, d44, d39, cpB]), rfl, rfl⟩⟩
             ·have d39 : a.tmps.getD 59 undef = (.bool true) := fdn (hF 39 (by decide) (hr 39 (by kernel_rfl)))
              have f6 : a.tmps.getD 6 undef = (.pointer (some ⟨q, 0, none⟩)) := hf 6 (by kernel_rfl)
              subst hJ
              exact .inl ⟨(fun k b h => by cases h; exact ⟨39, by decide, rfl, d39⟩), .inl ⟨46, by decide, rfl, (.pointer (some ⟨q, 1, none⟩)), W1.drew, (by simp [go_sem, Act.eval, d39, f6]), rfl, rfl⟩⟩
             ·have d46 : a.tmps.getD 66 undef = (.pointer (some ⟨q, 1, none⟩)) := fdn (hF 46 (by decide) (hr 46 (by kernel_rfl)))
              have d39 : a.tmps.getD 59 undef = (.bool true) := fdn (hF 39 (by decide) (hr 39 (by kernel_rfl)))
              subst hJ
              exact .inl ⟨(fun k b h => by cases h; exact ⟨39, by decide, rfl, d39⟩), .inl ⟨47, by decide, rfl, (.int .i64 y), W1.drew, (by simp [go_sem, Act.eval, d46, d39, cq1]), rfl, rfl⟩⟩
             ·have d45 : a.tmps.getD 65 undef = (.int .i64 py) := fdn (hF 45 (by decide) (hr 45 (by kernel_rfl)))
              have d47 : a.tmps.getD 67 undef = (.int .i64 y) := fdn (hF 47 (by decide) (hr 47 (by kernel_rfl)))
              have d39 : a.tmps.getD 59 undef = (.bool true) := fdn (hF 39 (by decide) (hr 39 (by kernel_rfl)))
              subst hJ
              exact .inl ⟨(fun k b h => by cases h; exact ⟨39, by decide, rfl, d39⟩), .inl ⟨48, by decide, rfl, (.bool false), W1.drew, (by simp [go_sem, Act.eval, d45, d47, d39, c7]), rfl, rfl⟩⟩
             ·have d39 : a.tmps.getD 59 undef = (.bool true) := fdn (hF 39 (by decide) (hr 39 (by kernel_rfl)))
              have d48 : a.tmps.getD 68 undef = (.bool false) := fdn (hF 48 (by decide) (hr 48 (by kernel_rfl)))
              have d29 : a.tmps.getD 49 undef = (.bool false) := fdn (hF 29 (by decide) (hr 29 (by kernel_rfl)))
              subst hJ
              exact .inl ⟨(fun k b h => by cases h; exact ⟨29, by decide, rfl, d29⟩), .inl ⟨49, by decide, rfl, (.bool false), W1.drew, (by simp [go_sem, Act.eval, d39, d48, d29]), rfl, rfl⟩⟩
             ·have d29 : a.tmps.getD 49 undef = (.bool false) := fdn (hF 29 (by decide) (hr 29 (by kernel_rfl)))
              have d49 : a.tmps.getD 69 undef = (.bool false) := fdn (hF 49 (by decide) (hr 49 (by kernel_rfl)))
              have d19 : a.tmps.getD 39 undef = (.bool true) := fdn (hF 19 (by decide) (hr 19 (by kernel_rfl)))
              subst hJ
              exact .inl ⟨(fun k b h => by cases h; exact ⟨19, by decide, rfl, d19⟩), .inl ⟨50, by decide, rfl, (.bool false), W1.drew, (by simp [go_sem, Act.eval, d29, d49, d19]), rfl, rfl⟩⟩
             ·have d19 : a.tmps.getD 39 undef = (.bool true) := fdn (hF 19 (by decide) (hr 19 (by kernel_rfl)))
              have d50 : a.tmps.getD 70 undef = (.bool false) := fdn (hF 50 (by decide) (hr 50 (by kernel_rfl)))
              have d16 : a.tmps.getD 36 undef = (.bool false) := fdn (hF 16 (by decide) (hr 16 (by kernel_rfl)))
              subst hJ
              exact .inl ⟨(fun k b h => by cases h; exact ⟨16, by decide, rfl, d16⟩), .inl ⟨51, by decide, rfl, (.bool false), W1.drew, (by simp [go_sem, Act.eval, d19, d50, d16]), rfl, rfl⟩⟩
             ·have d16 : a.tmps.getD 36 undef = (.bool false) := fdn (hF 16 (by decide) (hr 16 (by kernel_rfl)))
              have d51 : a.tmps.getD 71 undef = (.bool false) := fdn (hF 51 (by decide) (hr 51 (by kernel_rfl)))
              subst hJ
              exact .inl ⟨(fun k b h => by cases h), .inl ⟨52, by decide, rfl, (.bool false), W1.drew, (by simp [go_sem, Act.eval, d16, d51]), rfl, rfl⟩⟩
            case fintt =>
             intro d vs Wtt hall hJ hF
             have h0 : vs 0 = (.pointer (some ⟨q, 0, none⟩)) := hF 0 (by decide)
             have h1 : vs 1 = (.int .i64 x) := hF 1 (by decide)
             have h2 : vs 2 = (.bool false) := hF 2 (by decide)
             have h3 : vs 3 = (.bool false) := hF 3 (by decide)
             have h4 : vs 4 = (.pointer (some ⟨q, 0, none⟩)) := hF 4 (by decide)
             have h5 : vs 5 = (.int .i64 x) := hF 5 (by decide)
             have h6 : vs 6 = (.pointer (some ⟨q, 1, none⟩)) := hF 6 (by decide)
             have h7 : vs 7 = (.int .i64 y) := hF 7 (by decide)
             have h8 : vs 8 = (.bool false) := hF 8 (by decide)
             have h9 : vs 9 = (.bool false) := hF 9 (by decide)
             have h10 : vs 10 = (.bool false) := hF 10 (by decide)
             have h11 : vs 11 = (.pointer (some ⟨q, 1, none⟩)) := hF 11 (by decide)
             have h12 : vs 12 = (.int .i64 y) := hF 12 (by decide)
             have h13 : vs 13 = (.int .i64 n) := hF 13 (by decide)
             have h14 : vs 14 = (.bool false) := hF 14 (by decide)
             have h15 : vs 15 = (.bool false) := hF 15 (by decide)
             have h16 : vs 16 = (.bool false) := hF 16 (by decide)
             have h17 : vs 17 = (.int .i64 (k : Int)) := hF 17 (by decide)
             have h18 : vs 18 = (.bool true) := hF 18 (by decide)
             have h19 : vs 19 = (.bool true) := hF 19 (by decide)
             have h20 : vs 20 = (.slice (some ⟨bl, ol, none⟩) m ac) := hF 20 (by decide)
             have h21 : vs 21 = (.int .i64 (k : Int)) := hF 21 (by decide)
             have h22 : vs 22 = (.int .i64 (kp : Int)) := hF 22 (by decide)
             have h23 : vs 23 = (.pointer (some ⟨bl, ol + kp * 2, none⟩)) := hF 23 (by decide)
             have h24 : vs 24 = (.pointer (some ⟨bl, ol + kp * 2, none⟩)) := hF 24 (by decide)
             have h25 : vs 25 = (.int .i64 px) := hF 25 (by decide)
             have h26 : vs 26 = (.pointer (some ⟨q, 0, none⟩)) := hF 26 (by decide)
             have h27 : vs 27 = (.int .i64 x) := hF 27 (by decide)
             have h28 : vs 28 = (.bool false) := hF 28 (by decide)
             have h29 : vs 29 = (.bool false) := hF 29 (by decide)
             have h30 : vs 30 = (.slice (some ⟨bl, ol, none⟩) m ac) := hF 30 (by decide)
             have h31 : vs 31 = (.int .i64 (k : Int)) := hF 31 (by decide)
             have h32 : vs 32 = (.int .i64 (kp : Int)) := hF 32 (by decide)
             have h33 : vs 33 = (.pointer (some ⟨bl, ol + kp * 2, none⟩)) := hF 33 (by decide)
             have h34 : vs 34 = (.pointer (some ⟨bl, ol + kp * 2, none⟩)) := hF 34 (by decide)
             have h35 : vs 35 = (.int .i64 px) := hF 35 (by decide)
             have h36 : vs 36 = (.pointer (some ⟨q, 0, none⟩)) := hF 36 (by decide)
             have h37 : vs 37 = (.int .i64 x) := hF 37 (by decide)
             have h38 : vs 38 = (.bool true) := hF 38 (by decide)
             have h39 : vs 39 = (.bool true) := hF 39 (by decide)
             have h40 : vs 40 = (.slice (some ⟨bl, ol, none⟩) m ac) := hF 40 (by decide)
             have h41 : vs 41 = (.int .i64 (k : Int)) := hF 41 (by decide)
             have h42 : vs 42 = (.int .i64 (kp : Int)) := hF 42 (by decide)
             have h43 : vs 43 = (.pointer (some ⟨bl, ol + kp * 2, none⟩)) := hF 43 (by decide)
             have h44 : vs 44 = (.pointer (some ⟨bl, ol + kp * 2 + 1, none⟩)) := hF 44 (by decide)
             have h45 : vs 45 = (.int .i64 py) := hF 45 (by decide)
             have h46 : vs 46 = (.pointer (some ⟨q, 1, none⟩)) := hF 46 (by decide)
             have h47 : vs 47 = (.int .i64 y) := hF 47 (by decide)
             have h48 : vs 48 = (.bool false) := hF 48 (by decide)
             have h49 : vs 49 = (.bool false) := hF 49 (by decide)
             have h50 : vs 50 = (.bool false) := hF 50 (by decide)
             have h51 : vs 51 = (.bool false) := hF 51 (by decide)
             have h52 : vs 52 = (.bool false) := hF 52 (by decide)
             clear hF
             show (_ : Exit → Act → World → Prop) Exit.normal (puts _ vs 53 _) Wtt
             simp only [puts, h0, h1, h2, h3, h4, h5, h6, h7, h8, h9, h10, h11, h12, h13, h14, h15, h16, h17, h18, h19, h20, h21, h22, h23, h24, h25, h26, h27, h28, h29, h30, h31, h32, h33, h34, h35, h36, h37, h38, h39, h40, h41, h42, h43, h44, h45, h46, h47, h48, h49, h50, h51, h52, List.getD_cons_zero, List.getD_cons_succ]
             clear h0 h1 h2 h3 h4 h5 h6 h7 h8 h9 h10 h11 h12 h13 h14 h15 h16 h17 h18 h19 h20 h21 h22 h23 h24 h25 h26 h27 h28 h29 h30 h31 h32 h33 h34 h35 h36 h37 h38 h39 h40 h41 h42 h43 h44 h45 h46 h47 h48 h49 h50 h51 h52
             subst hJ
             simp only [Act.put, List.setIfInBounds_toArray, List.set_cons_succ, List.set_cons_zero]
             clear hall
             go_wp2_with (fail)
             go_roundw
             case rel => exact ⟨k + 1, by go_num, by omega, HE.out, HB2.out⟩
             case measure => simp [intOf] <;> omega
          ·have hpb : (px == x) = false := by simpa using c6
           have HE := Lib.hid (HOK.out (by unfold fitAt; rw [← HXY.out.1, ← HXY.out.2, ← HPP.out.1, ← HPP.out.2]; omega))
           go_wp2_with (fail)
           rw [← HQ.out, ← HW1.out]
           refine wpIn_wide (n := 5).1 (wpIn_flowM (F0 := Fence.wide) (n0 := 5) (fun _ => trivial) (fun h => by cases h) (by kernel_rfl) (by kernel_rfl) 53 53 (by kernel_rfl) (fun j => ([0, 1, 2, 3, 4, 5, 6, 7, 8, 9, 10, 11, 12, 13, 14, 15, 16, 17, 18, 19, 20, 21, 22, 23, 24, 25, 26, 27, 28, 29, 30, 31, 32, 33, 34, 35, 36, 37, 38, 39, 40, 41, 42, 43, 44, 45, 46, 47, 48, 49, 50, 51, 52] : List Nat).getD j 0) (fun j => ([20, 21, 22, 23, 24, 25, 26, 27, 28, 29, 30, 31, 32, 33, 34, 35, 36, 37, 38, 39, 40, 41, 42, 43, 44, 45, 46, 47, 48, 49, 50, 51, 52, 53, 54, 55, 56, 57, 58, 59, 60, 61, 62, 63, 64, 65, 66, 67, 68, 69, 70, 71, 72] : List Nat).getD j 0) (by kernel_rfl) (by kernel_rfl) (by kernel_rfl) (by kernel_rfl) (by kernel_rfl) (by kernel_rfl) (by kernel_rfl) (fun j zv => ([(fun zv => zv = (.pointer (some ⟨q, 0, none⟩))), (fun zv => zv = (.int .i64 x)), (fun zv => zv = (.bool false)), (fun zv => zv = (.bool false)), (fun zv => zv = (.pointer (some ⟨q, 0, none⟩))), (fun zv => zv = (.int .i64 x)), (fun zv => zv = (.pointer (some ⟨q, 1, none⟩))), (fun zv => zv = (.int .i64 y)), (fun zv => zv = (.bool false)), (fun zv => zv = (.bool false)), (fun zv => zv = (.bool false)), (fun zv => zv = (.pointer (some ⟨q, 1, none⟩))), (fun zv => zv = (.int .i64 y)), (fun zv => zv = (.int .i64 n)), (fun zv => zv = (.bool false)), (fun zv => zv = (.bool false)), (fun zv => zv = (.bool false)), (fun zv => zv = (.int .i64 (k : Int))), (fun zv => zv = (.bool true)), (fun zv => zv = (.bool true)), (fun zv => zv = (.slice (some ⟨bl, ol, none⟩) m ac)), (fun zv => zv = (.int .i64 (k : Int))), (fun zv => zv = (.int .i64 (kp : Int))), (fun zv => zv = (.pointer (some ⟨bl, ol + kp * 2, none⟩))), (fun zv => zv = (.pointer (some ⟨bl, ol + kp * 2, none⟩))), (fun zv => zv = (.int .i64 px)), (fun zv => zv = (.pointer (some ⟨q, 0, none⟩))), (fun zv => zv = (.int .i64 x)), (fun zv => zv = (.bool false)), (fun zv => zv = (.bool false)), (fun zv => zv = (.slice (some ⟨bl, ol, none⟩) m ac)), (fun zv => zv = (.int .i64 (k : Int))), (fun zv => zv = (.int .i64 (kp : Int))), (fun zv => zv = (.pointer (some ⟨bl, ol + kp * 2, none⟩))), (fun zv => zv = (.pointer (some ⟨bl, ol + kp * 2, none⟩))), (fun zv => zv = (.int .i64 px)), (fun zv => zv = (.pointer (some ⟨q, 0, none⟩))), (fun zv => zv = (.int .i64 x)), (fun zv => zv = (.bool false)), (fun zv => zv = (.bool false)), (fun zv => zv = undef), (fun zv => zv = undef), (fun zv => zv = undef), (fun zv => zv = undef), (fun zv => zv = undef), (fun zv => zv = undef), (fun zv => zv = undef), (fun zv => zv = undef), (fun zv => zv = undef), (fun zv => zv = (.bool false)), (fun zv => zv = (.bool false)), (fun zv => zv = (.bool false)), (fun zv => zv = (.bool false))] : List (Value → Prop)).getD j (fun _ => True) zv) (fun _ _ W => W = W1.drew) ?h0st ?stepst ?finst)
           case h0st => exact fun _ => rfl
           case stepst =>
            intro i o a W d vs hi ho hdi hJ hf hr hF
            replace hi : i < 53 := hi
            rcases (show i = 0 ∨ i = 1 ∨ i = 2 ∨ i = 3 ∨ i = 4 ∨ i = 5 ∨ i = 6 ∨ i = 7 ∨ i = 8 ∨ i = 9 ∨ i = 10 ∨ i = 11 ∨ i = 12 ∨ i = 13 ∨ i = 14 ∨ i = 15 ∨ i = 16 ∨ i = 17 ∨ i = 18 ∨ i = 19 ∨ i = 20 ∨ i = 21 ∨ i = 22 ∨ i = 23 ∨ i = 24 ∨ i = 25 ∨ i = 26 ∨ i = 27 ∨ i = 28 ∨ i = 29 ∨ i = 30 ∨ i = 31 ∨ i = 32 ∨ i = 33 ∨ i = 34 ∨ i = 35 ∨ i = 36 ∨ i = 37 ∨ i = 38 ∨ i = 39 ∨ i = 40 ∨ i = 41 ∨ i = 42 ∨ i = 43 ∨ i = 44 ∨ i = 45 ∨ i = 46 ∨ i = 47 ∨ i = 48 ∨ i = 49 ∨ i = 50 ∨ i = 51 ∨ i = 52 by omega) with rfl | rfl | rfl | rfl | rfl | rfl | rfl | rfl | rfl | rfl | rfl | rfl | rfl | rfl | rfl | rfl | rfl | rfl | rfl | rfl | rfl | rfl | rfl | rfl | rfl | rfl | rfl | rfl | rfl | rfl | rfl | rfl | rfl | rfl | rfl | rfl | rfl | rfl | rfl | rfl | rfl | rfl | rfl | rfl | rfl | rfl | rfl | rfl | rfl | rfl | rfl | rfl | rfl
            all_goals
             replace ho := op_at ho (by rfl)
             subst ho
            ·have f6 : a.tmps.getD 6 undef = (.pointer (some ⟨q, 0, none⟩)) := hf 6 (by kernel_rfl)
             subst hJ
             exact .inl ⟨(fun k b h => by cases h), .inl ⟨0, by decide, rfl, (.pointer (some ⟨q, 0, none⟩)), W1.drew, (by simp [go_sem, Act.eval, f6]), rfl, rfl⟩⟩
            ·have d0 : a.tmps.getD 20 undef = (.pointer (some ⟨q, 0, none⟩)) := fdn (hF 0 (by decide) (hr 0 (by kernel_rfl)))
             subst hJ
             exact .inl ⟨(fun k b h => by cases h), .inl ⟨1, by decide, rfl, (.int .i64 x), W1.drew, (by simp [go_sem, Act.eval, d0, cq0]), rfl, rfl⟩⟩
            ·have d1 : a.tmps.getD 21 undef = (.int .i64 x) := fdn (hF 1 (by decide) (hr 1 (by kernel_rfl)))
             subst hJ
             exact .inl ⟨(fun k b h => by cases h), .inl ⟨2, by decide, rfl, (.bool false), W1.drew, (by simp [go_sem, Act.eval, d1, c1]), rfl, rfl⟩⟩
            ·have d2 : a.tmps.getD 22 undef = (.bool false) := fdn (hF 2 (by decide) (hr 2 (by kernel_rfl)))
             subst hJ
             exact .inl ⟨(fun k b h => by cases h), .inl ⟨3, by decide, rfl, (.bool false), W1.drew, (by simp [go_sem, Act.eval, d2]), rfl, rfl⟩⟩
            ·have d3 : a.tmps.getD 23 undef = (.bool false) := fdn (hF 3 (by decide) (hr 3 (by kernel_rfl)))
             have f6 : a.tmps.getD 6 undef = (.pointer (some ⟨q, 0, none⟩)) := hf 6 (by kernel_rfl)
             subst hJ
             exact .inl ⟨(fun k b h => by cases h; exact ⟨3, by decide, rfl, d3⟩), .inl ⟨4, by decide, rfl, (.pointer (some ⟨q, 0, none⟩)), W1.drew, (by simp [go_sem, Act.eval, d3, f6]), rfl, rfl⟩⟩
            ·have d4 : a.tmps.getD 24 undef = (.pointer (some ⟨q, 0, none⟩)) := fdn (hF 4 (by decide) (hr 4 (by kernel_rfl)))
             have d3 : a.tmps.getD 23 undef = (.bool false) := fdn (hF 3 (by decide) (hr 3 (by kernel_rfl)))
             subst hJ
             exact .inl ⟨(fun k b h => by cases h; exact ⟨3, by decide, rfl, d3⟩), .inl ⟨5, by decide, rfl, (.int .i64 x), W1.drew, (by simp [go_sem, Act.eval, d4, d3, cq0]), rfl, rfl⟩⟩
            ·have d3 : a.tmps.getD 23 undef = (.bool false) := fdn (hF 3 (by decide) (hr 3 (by kernel_rfl)))
             have f6 : a.tmps.getD 6 undef = (.pointer (some ⟨q, 0, none⟩)) := hf 6 (by kernel_rfl)
             subst hJ
             exact .inl ⟨(fun k b h => by cases h; exact ⟨3, by decide, rfl, d3⟩), .inl ⟨6, by decide, rfl, (.pointer (some ⟨q, 1, none⟩)), W1.drew, (by simp [go_sem, Act.eval, d3, f6]), rfl, rfl⟩⟩
            ·have d6 : a.tmps.getD 26 undef = (.pointer (some ⟨q, 1, none⟩)) := fdn (hF 6 (by decide) (hr 6 (by kernel_rfl)))
             have d3 : a.tmps.getD 23 undef = (.bool false) := fdn (hF 3 (by decide) (hr 3 (by kernel_rfl)))
             subst hJ
             exact .inl ⟨(fun k b h => by cases h; exact ⟨3, by decide, rfl, d3⟩), .inl ⟨7, by decide, rfl, (.int .i64 y), W1.drew, (by simp [go_sem, Act.eval, d6, d3, cq1]), rfl, rfl⟩⟩
            ·have d5 : a.tmps.getD 25 undef = (.int .i64 x) := fdn (hF 5 (by decide) (hr 5 (by kernel_rfl)))
             have d7 : a.tmps.getD 27 undef = (.int .i64 y) := fdn (hF 7 (by decide) (hr 7 (by kernel_rfl)))
             have d3 : a.tmps.getD 23 undef = (.bool false) := fdn (hF 3 (by decide) (hr 3 (by kernel_rfl)))
             subst hJ
             exact .inl ⟨(fun k b h => by cases h; exact ⟨3, by decide, rfl, d3⟩), .inl ⟨8, by decide, rfl, (.bool false), W1.drew, (by simp [go_sem, Act.eval, d5, d7, d3, c2]), rfl, rfl⟩⟩
            ·have d3 : a.tmps.getD 23 undef = (.bool false) := fdn (hF 3 (by decide) (hr 3 (by kernel_rfl)))
             have d8 : a.tmps.getD 28 undef = (.bool false) := fdn (hF 8 (by decide) (hr 8 (by kernel_rfl)))
             subst hJ
             exact .inl ⟨(fun k b h => by cases h), .inl ⟨9, by decide, rfl, (.bool false), W1.drew, (by simp [go_sem, Act.eval, d3, d8]), rfl, rfl⟩⟩
            ·have d9 : a.tmps.getD 29 undef = (.bool false) := fdn (hF 9 (by decide) (hr 9 (by kernel_rfl)))
             subst hJ
             exact .inl ⟨(fun k b h => by cases h), .inl ⟨10, by decide, rfl, (.bool false), W1.drew, (by simp [go_sem, Act.eval, d9]), rfl, rfl⟩⟩
            ·have d10 : a.tmps.getD 30 undef = (.bool false) := fdn (hF 10 (by decide) (hr 10 (by kernel_rfl)))
             have f6 : a.tmps.getD 6 undef = (.pointer (some ⟨q, 0, none⟩)) := hf 6 (by kernel_rfl)
             subst hJ
             exact .inl ⟨(fun k b h => by cases h; exact ⟨10, by decide, rfl, d10⟩), .inl ⟨11, by decide, rfl, (.pointer (some ⟨q, 1, none⟩)), W1.drew, (by simp [go_sem, Act.eval, d10, f6]), rfl, rfl⟩⟩
            ·have d11 : a.tmps.getD 31 undef = (.pointer (some ⟨q, 1, none⟩)) := fdn (hF 11 (by decide) (hr 11 (by kernel_rfl)))
             have d10 : a.tmps.getD 30 undef = (.bool false) := fdn (hF 10 (by decide) (hr 10 (by kernel_rfl)))
             subst hJ
             exact .inl ⟨(fun k b h => by cases h; exact ⟨10, by decide, rfl, d10⟩), .inl ⟨12, by decide, rfl, (.int .i64 y), W1.drew, (by simp [go_sem, Act.eval, d11, d10, cq1]), rfl, rfl⟩⟩
            ·have d10 : a.tmps.getD 30 undef = (.bool false) := fdn (hF 10 (by decide) (hr 10 (by kernel_rfl)))
             have f0 : a.tmps.getD 0 undef = (.int .i64 n) := hf 0 (by kernel_rfl)
             subst hJ
             exact .inl ⟨(fun k b h => by cases h; exact ⟨10, by decide, rfl, d10⟩), .inl ⟨13, by decide, rfl, (.int .i64 n), W1.drew, (by simp [go_sem, Act.eval, d10, f0]), rfl, rfl⟩⟩
            ·have d12 : a.tmps.getD 32 undef = (.int .i64 y) := fdn (hF 12 (by decide) (hr 12 (by kernel_rfl)))
             have d13 : a.tmps.getD 33 undef = (.int .i64 n) := fdn (hF 13 (by decide) (hr 13 (by kernel_rfl)))
             have d10 : a.tmps.getD 30 undef = (.bool false) := fdn (hF 10 (by decide) (hr 10 (by kernel_rfl)))
             subst hJ
             exact .inl ⟨(fun k b h => by cases h; exact ⟨10, by decide, rfl, d10⟩), .inl ⟨14, by decide, rfl, (.bool false), W1.drew, (by simp [go_sem, Act.eval, d12, d13, d10, c3]), rfl, rfl⟩⟩
            ·have d10 : a.tmps.getD 30 undef = (.bool false) := fdn (hF 10 (by decide) (hr 10 (by kernel_rfl)))
             have d14 : a.tmps.getD 34 undef = (.bool false) := fdn (hF 14 (by decide) (hr 14 (by kernel_rfl)))
             subst hJ
             exact .inl ⟨(fun k b h => by cases h), .inl ⟨15, by decide, rfl, (.bool false), W1.drew, (by simp [go_sem, Act.eval, d10, d14]), rfl, rfl⟩⟩
            ·have d15 : a.tmps.getD 35 undef = (.bool false) := fdn (hF 15 (by decide) (hr 15 (by kernel_rfl)))
             subst hJ
             exact .inl ⟨(fun k b h => by cases h), .inl ⟨16, by decide, rfl, (.bool false), W1.drew, (by simp [go_sem, Act.eval, d15]), rfl, rfl⟩⟩
            ·have d16 : a.tmps.getD 36 undef = (.bool false) := fdn (hF 16 (by decide) (hr 16 (by kernel_rfl)))
             have f5 : a.tmps.getD 5 undef = (.int .i64 (k : Int)) := hf 5 (by kernel_rfl)
             subst hJ
             exact .inl ⟨(fun k b h => by cases h; exact ⟨16, by decide, rfl, d16⟩), .inl ⟨17, by decide, rfl, (.int .i64 (k : Int)), W1.drew, (by simp [go_sem, Act.eval, d16, f5]), rfl, rfl⟩⟩
            ·have d17 : a.tmps.getD 37 undef = (.int .i64 (k : Int)) := fdn (hF 17 (by decide) (hr 17 (by kernel_rfl)))
             have d16 : a.tmps.getD 36 undef = (.bool false) := fdn (hF 16 (by decide) (hr 16 (by kernel_rfl)))
             subst hJ
             exact .inl ⟨(fun k b h => by cases h; exact ⟨16, by decide, rfl, d16⟩), .inl ⟨18, by decide, rfl, (.bool true), W1.drew, (by simp [go_sem, Act.eval, d17, d16, c4]), rfl, rfl⟩⟩
            ·have d18 : a.tmps.getD 38 undef = (.bool true) := fdn (hF 18 (by decide) (hr 18 (by kernel_rfl)))
             have d16 : a.tmps.getD 36 undef = (.bool false) := fdn (hF 16 (by decide) (hr 16 (by kernel_rfl)))
             subst hJ
             exact .inl ⟨(fun k b h => by cases h; exact ⟨16, by decide, rfl, d16⟩), .inl ⟨19, by decide, rfl, (.bool true), W1.drew, (by simp [go_sem, Act.eval, d18, d16]), rfl, rfl⟩⟩
            ·have d19 : a.tmps.getD 39 undef = (.bool true) := fdn (hF 19 (by decide) (hr 19 (by kernel_rfl)))
             have f1 : a.tmps.getD 1 undef = (.slice (some ⟨bl, ol, none⟩) m ac) := hf 1 (by kernel_rfl)
             subst hJ
             exact .inl ⟨(fun k b h => by cases h; exact ⟨19, by decide, rfl, d19⟩), .inl ⟨20, by decide, rfl, (.slice (some ⟨bl, ol, none⟩) m ac), W1.drew, (by simp [go_sem, Act.eval, d19, f1]), rfl, rfl⟩⟩
            ·have d19 : a.tmps.getD 39 undef = (.bool true) := fdn (hF 19 (by decide) (hr 19 (by kernel_rfl)))
             have f5 : a.tmps.getD 5 undef = (.int .i64 (k : Int)) := hf 5 (by kernel_rfl)
             subst hJ
             exact .inl ⟨(fun k b h => by cases h; exact ⟨19, by decide, rfl, d19⟩), .inl ⟨21, by decide, rfl, (.int .i64 (k : Int)), W1.drew, (by simp [go_sem, Act.eval, d19, f5]), rfl, rfl⟩⟩
            ·have d21 : a.tmps.getD 41 undef = (.int .i64 (k : Int)) := fdn (hF 21 (by decide) (hr 21 (by kernel_rfl)))
             have d19 : a.tmps.getD 39 undef = (.bool true) := fdn (hF 19 (by decide) (hr 19 (by kernel_rfl)))
             subst hJ
             exact .inl ⟨(fun k b h => by cases h; exact ⟨19, by decide, rfl, d19⟩), .inl ⟨22, by decide, rfl, (.int .i64 (kp : Int)), W1.drew, (by simp [go_sem, Act.eval, d21, d19, hj]), rfl, rfl⟩⟩
            ·have d20 : a.tmps.getD 40 undef = (.slice (some ⟨bl, ol, none⟩) m ac) := fdn (hF 20 (by decide) (hr 20 (by kernel_rfl)))
             have d22 : a.tmps.getD 42 undef = (.int .i64 (kp : Int)) := fdn (hF 22 (by decide) (hr 22 (by kernel_rfl)))
             have d19 : a.tmps.getD 39 undef = (.bool true) := fdn (hF 19 (by decide) (hr 19 (by kernel_rfl)))
             subst hJ
             exact .inl ⟨(fun k b h => by cases h; exact ⟨19, by decide, rfl, d19⟩), .inl ⟨23, by decide, rfl, (.pointer (some ⟨bl, ol + kp * 2, none⟩)), W1.drew, (by simp [go_sem, Act.eval, d20, d22, d19, hjm]), rfl, rfl⟩⟩
            ·have d23 : a.tmps.getD 43 undef = (.pointer (some ⟨bl, ol + kp * 2, none⟩)) := fdn (hF 23 (by decide) (hr 23 (by kernel_rfl)))
             have d19 : a.tmps.getD 39 undef = (.bool true) := fdn (hF 19 (by decide) (hr 19 (by kernel_rfl)))
             subst hJ
             exact .inl ⟨(fun k b h => by cases h; exact ⟨19, by decide, rfl, d19⟩), .inl ⟨24, by decide, rfl, (.pointer (some ⟨bl, ol + kp * 2, none⟩)), W1.drew, (by simp [go_sem, Act.eval, d23, d19]), rfl, rfl⟩⟩
            ·have d24 : a.tmps.getD 44 undef = (.pointer (some ⟨bl, ol + kp * 2, none⟩)) := fdn (hF 24 (by decide) (hr 24 (by kernel_rfl)))
             have d19 : a.tmps.getD 39 undef = (.bool true) := fdn (hF 19 (by decide) (hr 19 (by kernel_rfl)))
             subst hJ
             exact .inl ⟨(fun k b h => by cases h; exact ⟨19, by decide, rfl, d19⟩), .inl ⟨25, by decide, rfl, (.int .i64 px), W1.drew, (by simp [go_sem, Act.eval, d24, d19, cpA]), rfl, rfl⟩⟩
            ·have d19 : a.tmps.getD 39 undef = (.bool true) := fdn (hF 19 (by decide) (hr 19 (by kernel_rfl)))
             have f6 : a.tmps.getD 6 undef = (.pointer (some ⟨q, 0, none⟩)) := hf 6 (by kernel_rfl)
             subst hJ
             exact .inl ⟨(fun k b h => by cases h; exact ⟨19, by decide, rfl, d19⟩), .inl ⟨26, by decide, rfl, (.pointer (some ⟨q, 0, none⟩)), W1.drew, (by simp [go_sem, Act.eval, d19, f6]), rfl, rfl⟩⟩
            ·have d26 : a.tmps.getD 46 undef = (.pointer (some ⟨q, 0, none⟩)) := fdn (hF 26 (by decide) (hr 26 (by kernel_rfl)))
             have d19 : a.tmps.getD 39 undef = (.bool true) := fdn (hF 19 (by decide) (hr 19 (by kernel_rfl)))
             subst hJ
             exact .inl ⟨(fun k b h => by cases h; exact ⟨19, by decide, rfl, d19⟩), .inl ⟨27, by decide, rfl, (.int .i64 x), W1.drew, (by simp [go_sem, Act.eval, d26, d19, cq0]), rfl, rfl⟩⟩
            ·have d25 : a.tmps.getD 45 undef = (.int .i64 px) := fdn (hF 25 (by decide) (hr 25 (by kernel_rfl)))
             have d27 : a.tmps.getD 47 undef = (.int .i64 x) := fdn (hF 27 (by decide) (hr 27 (by kernel_rfl)))
             have d19 : a.tmps.getD 39 undef = (.bool true) := fdn (hF 19 (by decide) (hr 19 (by kernel_rfl)))
             subst hJ
             exact .inl ⟨(fun k b h => by cases h; exact ⟨19, by decide, rfl, d19⟩), .inl ⟨28, by decide, rfl, (.bool false), W1.drew, (by simp [go_sem, Act.eval, d25, d27, d19, c5]), rfl, rfl⟩⟩
            ·have d28 : a.tmps.getD 48 undef = (.bool false) := fdn (hF 28 (by decide) (hr 28 (by kernel_rfl)))
             have d19 : a.tmps.getD 39 undef = (.bool true) := fdn (hF 19 (by decide) (hr 19 (by kernel_rfl)))
             subst hJ
             exact .inl ⟨(fun k b h => by cases h; exact ⟨19, by decide, rfl, d19⟩), .inl ⟨29, by decide, rfl, (.bool false), W1.drew, (by simp [go_sem, Act.eval, d28, d19]), rfl, rfl⟩⟩
            ·have d29 : a.tmps.getD 49 undef = (.bool false) := fdn (hF 29 (by decide) (hr 29 (by kernel_rfl)))
             have f1 : a.tmps.getD 1 undef = (.slice (some ⟨bl, ol, none⟩) m ac) := hf 1 (by kernel_rfl)
             subst hJ
             exact .inl ⟨(fun k b h => by cases h; exact ⟨29, by decide, rfl, d29⟩), .inl ⟨30, by decide, rfl, (.slice (some ⟨bl, ol, none⟩) m ac), W1.drew, (by simp [go_sem, Act.eval, d29, f1]), rfl, rfl⟩⟩
            ·have d29 : a.tmps.getD 49 undef = (.bool false) := fdn (hF 29 (by decide) (hr 29 (by kernel_rfl)))
             have f5 : a.tmps.getD 5 undef = (.int .i64 (k : Int)) := hf 5 (by kernel_rfl)
             subst hJ
             exact .inl ⟨(fun k b h => by cases h; exact ⟨29, by decide, rfl, d29⟩), .inl ⟨31, by decide, rfl, (.int .i64 (k : Int)), W1.drew, (by simp [go_sem, Act.eval, d29, f5]), rfl, rfl⟩⟩
            ·have d31 : a.tmps.getD 51 undef = (.int .i64 (k : Int)) := fdn (hF 31 (by decide) (hr 31 (by kernel_rfl)))
             have d29 : a.tmps.getD 49 undef = (.bool false) := fdn (hF 29 (by decide) (hr 29 (by kernel_rfl)))
             subst hJ
             exact .inl ⟨(fun k b h => by cases h; exact ⟨29, by decide, rfl, d29⟩), .inl ⟨32, by decide, rfl, (.int .i64 (kp : Int)), W1.drew, (by simp [go_sem, Act.eval, d31, d29, hj]), rfl, rfl⟩⟩
            ·have d30 : a.tmps.getD 50 undef = (.slice (some ⟨bl, ol, none⟩) m ac) := fdn (hF 30 (by decide) (hr 30 (by kernel_rfl)))
             have d32 : a.tmps.getD 52 undef = (.int .i64 (kp : Int)) := fdn (hF 32 (by decide) (hr 32 (by kernel_rfl)))
             have d29 : a.tmps.getD 49 undef = (.bool false) := fdn (hF 29 (by decide) (hr 29 (by kernel_rfl)))
             subst hJ
             exact .inl ⟨(fun k b h => by cases h; exact ⟨29, by decide, rfl, d29⟩), .inl ⟨33, by decide, rfl, (.pointer (some ⟨bl, ol + kp * 2, none⟩)), W1.drew, (by simp [go_sem, Act.eval, d30, d32, d29, hjm]), rfl, rfl⟩⟩
            ·have d33 : a.tmps.getD 53 undef = (.pointer (some ⟨bl, ol + kp * 2, none⟩)) := fdn (hF 33 (by decide) (hr 33 (by kernel_rfl)))
             have d29 : a.tmps.getD 49 undef = (.bool false) := fdn (hF 29 (by decide) (hr 29 (by kernel_rfl)))
             subst hJ
             exact .inl ⟨(fun k b h => by cases h; exact ⟨29, by decide, rfl, d29⟩), .inl ⟨34, by decide, rfl, (.pointer (some ⟨bl, ol + kp * 2, none⟩)), W1.drew, (by simp [go_sem, Act.eval, d33, d29]), rfl, rfl⟩⟩
            ·have d34 : a.tmps.getD 54 undef = (.pointer (some ⟨bl, ol + kp * 2, none⟩)) := fdn (hF 34 (by decide) (hr 34 (by kernel_rfl)))
             have d29 : a.tmps.getD 49 undef = (.bool false) := fdn (hF 29 (by decide) (hr 29 (by kernel_rfl)))
             subst hJ
             exact .inl ⟨(fun k b h => by cases h; exact ⟨29, by decide, rfl, d29⟩), .inl ⟨35, by decide, rfl, (.int .i64 px), W1.drew, (by simp [go_sem, Act.eval, d34, d29, cpA]), rfl, rfl⟩⟩
            ·have d29 : a.tmps.getD 49 undef = (.bool false) := fdn (hF 29 (by decide) (hr 29 (by kernel_rfl)))
             have f6 : a.tmps.getD 6 undef = (.pointer (some ⟨q, 0, none⟩)) := hf 6 (by kernel_rfl)
             subst hJ
             exact .inl ⟨(fun k b h => by cases h; exact ⟨29, by decide, rfl, d29⟩), .inl ⟨36, by decide, rfl, (.pointer (some ⟨q, 0, none⟩)), W1.drew, (by simp [go_sem, Act.eval, d29, f6]), rfl, rfl⟩⟩
            ·have d36 : a.tmps.getD 56 undef = (.pointer (some ⟨q, 0, none⟩)) := fdn (hF 36 (by decide) (hr 36 (by kernel_rfl)))
             have d29 : a.tmps.getD 49 undef = (.bool false) := fdn (hF 29 (by decide) (hr 29 (by kernel_rfl)))
             subst hJ
             exact .inl ⟨(fun k b h => by cases h; exact ⟨29, by decide, rfl, d29⟩), .inl ⟨37, by decide, rfl, (.int .i64 x), W1.drew, (by simp [go_sem, Act.eval, d36, d29, cq0]), rfl, rfl⟩⟩
            ·have d35 : a.tmps.getD 55 undef = (.int .i64 px) := fdn (hF 35 (by decide) (hr 35 (by kernel_rfl)))
             have d37 : a.tmps.getD 57 undef = (.int .i64 x) := fdn (hF 37 (by decide) (hr 37 (by kernel_rfl)))
             have d29 : a.tmps.getD 49 undef = (.bool false) := fdn (hF 29 (by decide) (hr 29 (by kernel_rfl)))
             subst hJ
             exact .inl ⟨(fun k b h => by cases h; exact ⟨29, by decide, rfl, d29⟩), .inl ⟨38, by decide, rfl, (.bool false), W1.drew, (by simp [go_sem, Act.eval, d35, d37, d29, hpb]), rfl, rfl⟩⟩
            ·have d38 : a.tmps.getD 58 undef = (.bool false) := fdn (hF 38 (by decide) (hr 38 (by kernel_rfl)))
             have d29 : a.tmps.getD 49 undef = (.bool false) := fdn (hF 29 (by decide) (hr 29 (by kernel_rfl)))
             subst hJ
             exact .inl ⟨(fun k b h => by cases h; exact ⟨29, by decide, rfl, d29⟩), .inl ⟨39, by decide, rfl, (.bool false), W1.drew, (by simp [go_sem, Act.eval, d38, d29]), rfl, rfl⟩⟩
            ·have d39 : a.tmps.getD 59 undef = (.bool false) := fdn (hF 39 (by decide) (hr 39 (by kernel_rfl)))
             subst hJ
             exact .inr ⟨39, true, 39, rfl, by decide, rfl, (nhB d39 rfl), .inl ⟨40, by decide, rfl, rfl, rfl⟩⟩
            ·have d39 : a.tmps.getD 59 undef = (.bool false) := fdn (hF 39 (by decide) (hr 39 (by kernel_rfl)))
             subst hJ
             exact .inr ⟨39, true, 39, rfl, by decide, rfl, (nhB d39 rfl), .inl ⟨41, by decide, rfl, rfl, rfl⟩⟩
            ·have d39 : a.tmps.getD 59 undef = (.bool false) := fdn (hF 39 (by decide) (hr 39 (by kernel_rfl)))
             subst hJ
             exact .inr ⟨39, true, 39, rfl, by decide, rfl, (nhB d39 rfl), .inl ⟨42, by decide, rfl, rfl, rfl⟩⟩
            ·have d39 : a.tmps.getD 59 undef = (.bool false) := fdn (hF 39 (by decide) (hr 39 (by kernel_rfl)))
             subst hJ
             exact .inr ⟨39, true, 39, rfl, by decide, rfl, (nhB d39 rfl), .inl ⟨43, by decide, rfl, rfl, rfl⟩⟩
            ·have d39 : a.tmps.getD 59 undef = (.bool false) := fdn (hF 39 (by decide) (hr 39 (by kernel_rfl)))
             subst hJ
             exact .inr ⟨39, true, 39, rfl, by decide, rfl, (nhB d39 rfl), .inl ⟨44, by decide, rfl, rfl, rfl⟩⟩
            ·have d39 : a.tmps.getD 59 undef = (.bool false) := fdn (hF 39 (by decide) (hr 39 (by kernel_rfl)))
             subst hJ
             exact .inr ⟨39, true, 39, rfl, by decide, rfl, (nhB d39 rfl), .inl ⟨45, by decide, rfl, rfl, rfl⟩⟩
            ·have d39 : a.tmps.getD 59 undef = (.bool false) := fdn (hF 39 (by decide) (hr 39 (by kernel_rfl)))
             subst hJ
             exact .inr ⟨39, true, 39, rfl, by decide, rfl, (nhB d39 rfl), .inl ⟨46, by decide, rfl, rfl, rfl⟩⟩
            ·have d39 : a.tmps.getD 59 undef = (.bool false) := fdn (hF 39 (by decide) (hr 39 (by kernel_rfl)))
             subst hJ
             exact .inr ⟨39, true, 39, rfl, by decide, rfl, (nhB d39 rfl), .inl ⟨47, by decide, rfl, rfl, rfl⟩⟩
            ·have d39 : a.tmps.getD 59 undef = (.bool false) := fdn (hF 39 (by decide) (hr 39 (by kernel_rfl)))
             subst hJ
             exact .inr ⟨39, true, 39, rfl, by decide, rfl, (nhB d39 rfl), .inl ⟨48, by decide, rfl, rfl, rfl⟩⟩
            ·have d39 : a.tmps.getD 59 undef = (.bool false) := fdn (hF 39 (by decide) (hr 39 (by kernel_rfl)))
             have d29 : a.tmps.getD 49 undef = (.bool false) := fdn (hF 29 (by decide) (hr 29 (by kernel_rfl)))
             subst hJ
             exact .inl ⟨(fun k b h => by cases h; exact ⟨29, by decide, rfl, d29⟩), .inl ⟨49, by decide, rfl, (.bool false), W1.drew, (by simp [go_sem, Act.eval, d39, d29]), rfl, rfl⟩⟩
            ·have d29 : a.tmps.getD 49 undef = (.bool false) := fdn (hF 29 (by decide) (hr 29 (by kernel_rfl)))
             have d49 : a.tmps.getD 69 undef = (.bool false) := fdn (hF 49 (by decide) (hr 49 (by kernel_rfl)))
             have d19 : a.tmps.getD 39 undef = (.bool true) := fdn (hF 19 (by decide) (hr 19 (by kernel_rfl)))
             subst hJ
             exact .inl ⟨(fun k b h => by cases h; exact ⟨19, by decide, rfl, d19⟩), .inl ⟨50, by decide, rfl, (.bool false), W1.drew, (by simp [go_sem, Act.eval, d29, d49, d19]), rfl, rfl⟩⟩
            ·have d19 : a.tmps.getD 39 undef = (.bool true) := fdn (hF 19 (by decide) (hr 19 (by kernel_rfl)))
             have d50 : a.tmps.getD 70 undef = (.bool false) := fdn (hF 50 (by decide) (hr 50 (by kernel_rfl)))
             have d16 : a.tmps.getD 36 undef = (.bool false) := fdn (hF 16 (by decide) (hr 16 (by kernel_rfl)))
             subst hJ
             exact .inl ⟨(fun k b h => by cases h; exact ⟨16, by decide, rfl, d16⟩), .inl ⟨51, by decide, rfl, (.bool false), W1.drew, (by simp [go_sem, Act.eval, d19, d50, d16]), rfl, rfl⟩⟩
            ·have d16 : a.tmps.getD 36 undef = (.bool false) := fdn (hF 16 (by decide) (hr 16 (by kernel_rfl)))
             have d51 : a.tmps.getD 71 undef = (.bool false) := fdn (hF 51 (by decide) (hr 51 (by kernel_rfl)))
             subst hJ
             exact .inl ⟨(fun k b h => by cases h), .inl ⟨52, by decide, rfl, (.bool false), W1.drew, (by simp [go_sem, Act.eval, d16, d51]), rfl, rfl⟩⟩
           case finst =>
            intro d vs Wst hall hJ hF
            have h0 : vs 0 = (.pointer (some ⟨q, 0, none⟩)) := hF 0 (by decide)
            have h1 : vs 1 = (.int .i64 x) := hF 1 (by decide)
            have h2 : vs 2 = (.bool false) := hF 2 (by decide)
            have h3 : vs 3 = (.bool false) := hF 3 (by decide)
            have h4 : vs 4 = (.pointer (some ⟨q, 0, none⟩)) := hF 4 (by decide)
            have h5 : vs 5 = (.int .i64 x) := hF 5 (by decide)
            have h6 : vs 6 = (.pointer (some ⟨q, 1, none⟩)) := hF 6 (by decide)
            have h7 : vs 7 = (.int .i64 y) := hF 7 (by decide)
            have h8 : vs 8 = (.bool false) := hF 8 (by decide)
            have h9 : vs 9 = (.bool false) := hF 9 (by decide)
            have h10 : vs 10 = (.bool false) := hF 10 (by decide)
            have h11 : vs 11 = (.pointer (some ⟨q, 1, none⟩)) := hF 11 (by decide)
            have h12 : vs 12 = (.int .i64 y) := hF 12 (by decide)
            have h13 : vs 13 = (.int .i64 n) := hF 13 (by decide)
            have h14 : vs 14 = (.bool false) := hF 14 (by decide)
            have h15 : vs 15 = (.bool false) := hF 15 (by decide)
            have h16 : vs 16 = (.bool false) := hF 16 (by decide)
            have h17 : vs 17 = (.int .i64 (k : Int)) := hF 17 (by decide)
            have h18 : vs 18 = (.bool true) := hF 18 (by decide)
            have h19 : vs 19 = (.bool true) := hF 19 (by decide)
            have h20 : vs 20 = (.slice (some ⟨bl, ol, none⟩) m ac) := hF 20 (by decide)
            have h21 : vs 21 = (.int .i64 (k : Int)) := hF 21 (by decide)
            have h22 : vs 22 = (.int .i64 (kp : Int)) := hF 22 (by decide)
            have h23 : vs 23 = (.pointer (some ⟨bl, ol + kp * 2, none⟩)) := hF 23 (by decide)
            have h24 : vs 24 = (.pointer (some ⟨bl, ol + kp * 2, none⟩)) := hF 24 (by decide)
            have h25 : vs 25 = (.int .i64 px) := hF 25 (by decide)
            have h26 : vs 26 = (.pointer (some ⟨q, 0, none⟩)) := hF 26 (by decide)
            have h27 : vs 27 = (.int .i64 x) := hF 27 (by decide)
            have h28 : vs 28 = (.bool false) := hF 28 (by decide)
            have h29 : vs 29 = (.bool false) := hF 29 (by decide)
            have h30 : vs 30 = (.slice (some ⟨bl, ol, none⟩) m ac) := hF 30 (by decide)
            have h31 : vs 31 = (.int .i64 (k : Int)) := hF 31 (by decide)
            have h32 : vs 32 = (.int .i64 (kp : Int)) := hF 32 (by decide)
            have h33 : vs 33 = (.pointer (some ⟨bl, ol + kp * 2, none⟩)) := hF 33 (by decide)
            have h34 : vs 34 = (.pointer (some ⟨bl, ol + kp * 2, none⟩)) := hF 34 (by decide)
            have h35 : vs 35 = (.int .i64 px) := hF 35 (by decide)
            have h36 : vs 36 = (.pointer (some ⟨q, 0, none⟩)) := hF 36 (by decide)
            have h37 : vs 37 = (.int .i64 x) := hF 37 (by decide)
            have h38 : vs 38 = (.bool false) := hF 38 (by decide)
            have h39 : vs 39 = (.bool false) := hF 39 (by decide)
            have h40 : vs 40 = undef := hF 40 (by decide)
            have h41 : vs 41 = undef := hF 41 (by decide)
            have h42 : vs 42 = undef := hF 42 (by decide)
            have h43 : vs 43 = undef := hF 43 (by decide)
            have h44 : vs 44 = undef := hF 44 (by decide)
            have h45 : vs 45 = undef := hF 45 (by decide)
            have h46 : vs 46 = undef := hF 46 (by decide)
            have h47 : vs 47 = undef := hF 47 (by decide)
            have h48 : vs 48 = undef := hF 48 (by decide)
            have h49 : vs 49 = (.bool false) := hF 49 (by decide)
            have h50 : vs 50 = (.bool false) := hF 50 (by decide)
            have h51 : vs 51 = (.bool false) := hF 51 (by decide)
            have h52 : vs 52 = (.bool false) := hF 52 (by decide)
            clear hF
            show (_ : Exit → Act → World → Prop) Exit.normal (puts _ vs 53 _) Wst
            simp only [puts, h0, h1, h2, h3, h4, h5, h6, h7, h8, h9, h10, h11, h12, h13, h14, h15, h16, h17, h18, h19, h20, h21, h22, h23, h24, h25, h26, h27, h28, h29, h30, h31, h32, h33, h34, h35, h36, h37, h38, h39, h40, h41, h42, h43, h44, h45, h46, h47, h48, h49, h50, h51, h52, List.getD_cons_zero, List.getD_cons_succ]
            clear h0 h1 h2 h3 h4 h5 h6 h7 h8 h9 h10 h11 h12 h13 h14 h15 h16 h17 h18 h19 h20 h21 h22 h23 h24 h25 h26 h27 h28 h29 h30 h31 h32 h33 h34 h35 h36 h37 h38 h39 h40 h41 h42 h43 h44 h45 h46 h47 h48 h49 h50 h51 h52
            subst hJ
            simp only [Act.put, List.setIfInBounds_toArray, List.set_cons_succ, List.set_cons_zero]
            clear hall
            go_wp2_with (fail)
            go_roundw
            case rel => exact ⟨k + 1, by go_num, by omega, HE.out, HB2.out⟩
            case measure => simp [intOf] <;> omega
        ·
         have HE := Lib.hid (HOK.out (by unfold fitAt; rw [← HXY.out.1, ← HXY.out.2]; omega))
         go_wp2_with (fail)
         rw [← HQ.out, ← HW1.out]
         refine wpIn_wide (n := 5).1 (wpIn_flowM (F0 := Fence.wide) (n0 := 5) (fun _ => trivial) (fun h => by cases h) (by kernel_rfl) (by kernel_rfl) 53 53 (by kernel_rfl) (fun j => ([0, 1, 2, 3, 4, 5, 6, 7, 8, 9, 10, 11, 12, 13, 14, 15, 16, 17, 18, 19, 20, 21, 22, 23, 24, 25, 26, 27, 28, 29, 30, 31, 32, 33, 34, 35, 36, 37, 38, 39, 40, 41, 42, 43, 44, 45, 46, 47, 48, 49, 50, 51, 52] : List Nat).getD j 0) (fun j => ([20, 21, 22, 23, 24, 25, 26, 27, 28, 29, 30, 31, 32, 33, 34, 35, 36, 37, 38, 39, 40, 41, 42, 43, 44, 45, 46, 47, 48, 49, 50, 51, 52, 53, 54, 55, 56, 57, 58, 59, 60, 61, 62, 63, 64, 65, 66, 67, 68, 69, 70, 71, 72] : List Nat).getD j 0) (by kernel_rfl) (by kernel_rfl) (by kernel_rfl) (by kernel_rfl) (by kernel_rfl) (by kernel_rfl) (by kernel_rfl) (fun j zv => ([(fun zv => zv = (.pointer (some ⟨q, 0, none⟩))), (fun zv => zv = (.int .i64 x)), (fun zv => zv = (.bool false)), (fun zv => zv = (.bool false)), (fun zv => zv = (.pointer (some ⟨q, 0, none⟩))), (fun zv => zv = (.int .i64 x)), (fun zv => zv = (.pointer (some ⟨q, 1, none⟩))), (fun zv => zv = (.int .i64 y)), (fun zv => zv = (.bool false)), (fun zv => zv = (.bool false)), (fun zv => zv = (.bool false)), (fun zv => zv = (.pointer (some ⟨q, 1, none⟩))), (fun zv => zv = (.int .i64 y)), (fun zv => zv = (.int .i64 n)), (fun zv => zv = (.bool false)), (fun zv => zv = (.bool false)), (fun zv => zv = (.bool false)), (fun zv => zv = (.int .i64 (k : Int))), (fun zv => zv = (.bool false)), (fun zv => zv = (.bool false)), (fun zv => zv = undef), (fun zv => zv = undef), (fun zv => zv = undef), (fun zv => zv = undef), (fun zv => zv = undef), (fun zv => zv = undef), (fun zv => zv = undef), (fun zv => zv = undef), (fun zv => zv = undef), (fun zv => zv = undef), (fun zv => zv = undef), (fun zv => zv = undef), (fun zv => zv = undef), (fun zv => zv = undef), (fun zv => zv = undef), (fun zv => zv = undef), (fun zv => zv = undef), (fun zv => zv = undef), (fun zv => zv = undef), (fun zv => zv = undef), (fun zv => zv = undef), (fun zv => zv = undef), (fun zv => zv = undef), (fun zv => zv = undef), (fun zv => zv = undef), (fun zv => zv = undef), (fun zv => zv = undef), (fun zv => zv = undef), (fun zv => zv = undef), (fun zv => zv = undef), (fun zv => zv = undef), (fun zv => zv = (.bool false)), (fun zv => zv = (.bool false))] : List (Value → Prop)).getD j (fun _ => True) zv) (fun _ _ W => W = W1.drew) ?h0rt ?steprt ?finrt)
         case h0rt => exact fun _ => rfl
         case steprt =>
          intro i o a W d vs hi ho hdi hJ hf hr hF
          replace hi : i < 53 := hi
          rcases (show i = 0 ∨ i = 1 ∨ i = 2 ∨ i = 3 ∨ i = 4 ∨ i = 5 ∨ i = 6 ∨ i = 7 ∨ i = 8 ∨ i = 9 ∨ i = 10 ∨ i = 11 ∨ i = 12 ∨ i = 13 ∨ i = 14 ∨ i = 15 ∨ i = 16 ∨ i = 17 ∨ i = 18 ∨ i = 19 ∨ i = 20 ∨ i = 21 ∨ i = 22 ∨ i = 23 ∨ i = 24 ∨ i = 25 ∨ i = 26 ∨ i = 27 ∨ i = 28 ∨ i = 29 ∨ i = 30 ∨ i = 31 ∨ i = 32 ∨ i = 33 ∨ i = 34 ∨ i = 35 ∨ i = 36 ∨ i = 37 ∨ i = 38 ∨ i = 39 ∨ i = 40 ∨ i = 41 ∨ i = 42 ∨ i = 43 ∨ i = 44 ∨ i = 45 ∨ i = 46 ∨ i = 47 ∨ i = 48 ∨ i = 49 ∨ i = 50 ∨ i = 51 ∨ i = 52 by omega) with rfl | rfl | rfl | rfl | rfl | rfl | rfl | rfl | rfl | rfl | rfl | rfl | rfl | rfl | rfl | rfl | rfl | rfl | rfl | rfl | rfl | rfl | rfl | rfl | rfl | rfl | rfl | rfl | rfl | rfl | rfl | rfl | rfl | rfl | rfl | rfl | rfl | rfl | rfl | rfl | rfl | rfl | rfl | rfl | rfl | rfl | rfl | rfl | rfl | rfl | rfl | rfl | rfl
          all_goals
           replace ho := op_at ho (by rfl)
           subst ho
          ·have f6 : a.tmps.getD 6 undef = (.pointer (some ⟨q, 0, none⟩)) := hf 6 (by kernel_rfl)
           subst hJ
           exact .inl ⟨(fun k b h => by cases h), .inl ⟨0, by decide, rfl, (.pointer (some ⟨q, 0, none⟩)), W1.drew, (by simp [go_sem, Act.eval, f6]), rfl, rfl⟩⟩
          ·have d0 : a.tmps.getD 20 undef = (.pointer (some ⟨q, 0, none⟩)) := fdn (hF 0 (by decide) (hr 0 (by kernel_rfl)))
           subst hJ
           exact .inl ⟨(fun k b h => by cases h), .inl ⟨1, by decide, rfl, (.int .i64 x), W1.drew, (by simp [go_sem, Act.eval, d0, cq0]), rfl, rfl⟩⟩
          ·have d1 : a.tmps.getD 21 undef = (.int .i64 x) := fdn (hF 1 (by decide) (hr 1 (by kernel_rfl)))
           subst hJ
           exact .inl ⟨(fun k b h => by cases h), .inl ⟨2, by decide, rfl, (.bool false), W1.drew, (by simp [go_sem, Act.eval, d1, c1]), rfl, rfl⟩⟩
          ·have d2 : a.tmps.getD 22 undef = (.bool false) := fdn (hF 2 (by decide) (hr 2 (by kernel_rfl)))
           subst hJ
           exact .inl ⟨(fun k b h => by cases h), .inl ⟨3, by decide, rfl, (.bool false), W1.drew, (by simp [go_sem, Act.eval, d2]), rfl, rfl⟩⟩
          ·have d3 : a.tmps.getD 23 undef = (.bool false) := fdn (hF 3 (by decide) (hr 3 (by kernel_rfl)))
           have f6 : a.tmps.getD 6 undef = (.pointer (some ⟨q, 0, none⟩)) := hf 6 (by kernel_rfl)
           subst hJ
           exact .inl ⟨(fun k b h => by cases h; exact ⟨3, by decide, rfl, d3⟩), .inl ⟨4, by decide, rfl, (.pointer (some ⟨q, 0, none⟩)), W1.drew, (by simp [go_sem, Act.eval, d3, f6]), rfl, rfl⟩⟩
          ·have d4 : a.tmps.getD 24 undef = (.pointer (some ⟨q, 0, none⟩)) := fdn (hF 4 (by decide) (hr 4 (by kernel_rfl)))
           have d3 : a.tmps.getD 23 undef = (.bool false) := fdn (hF 3 (by decide) (hr 3 (by kernel_rfl)))
           subst hJ
           exact .inl ⟨(fun k b h => by cases h; exact ⟨3, by decide, rfl, d3⟩), .inl ⟨5, by decide, rfl, (.int .i64 x), W1.drew, (by simp [go_sem, Act.eval, d4, d3, cq0]), rfl, rfl⟩⟩
          ·have d3 : a.tmps.getD 23 undef = (.bool false) := fdn (hF 3 (by decide) (hr 3 (by kernel_rfl)))
           have f6 : a.tmps.getD 6 undef = (.pointer (some ⟨q, 0, none⟩)) := hf 6 (by kernel_rfl)
           subst hJ
           exact .inl ⟨(fun k b h => by cases h; exact ⟨3, by decide, rfl, d3⟩), .inl ⟨6, by decide, rfl, (.pointer (some ⟨q, 1, none⟩)), W1.drew, (by simp [go_sem, Act.eval, d3, f6]), rfl, rfl⟩⟩
          ·have d6 : a.tmps.getD 26 undef = (.pointer (some ⟨q, 1, none⟩)) := fdn (hF 6 (by decide) (hr 6 (by kernel_rfl)))
           have d3 : a.tmps.getD 23 undef = (.bool false) := fdn (hF 3 (by decide) (hr 3 (by kernel_rfl)))
           subst hJ
           exact .inl ⟨(fun k b h => by cases h; exact ⟨3, by decide, rfl, d3⟩), .inl ⟨7, by decide, rfl, (.int .i64 y), W1.drew, (by simp [go_sem, Act.eval, d6, d3, cq1]), rfl, rfl⟩⟩
          ·have d5 : a.tmps.getD 25 undef = (.int .i64 x) := fdn (hF 5 (by decide) (hr 5 (by kernel_rfl)))
           have d7 : a.tmps.getD 27 undef = (.int .i64 y) := fdn (hF 7 (by decide) (hr 7 (by kernel_rfl)))
           have d3 : a.tmps.getD 23 undef = (.bool false) := fdn (hF 3 (by decide) (hr 3 (by kernel_rfl)))
           subst hJ
           exact .inl ⟨(fun k b h => by cases h; exact ⟨3, by decide, rfl, d3⟩), .inl ⟨8, by decide, rfl, (.bool false), W1.drew, (by simp [go_sem, Act.eval, d5, d7, d3, c2]), rfl, rfl⟩⟩
          ·have d3 : a.tmps.getD 23 undef = (.bool false) := fdn (hF 3 (by decide) (hr 3 (by kernel_rfl)))
           have d8 : a.tmps.getD 28 undef = (.bool false) := fdn (hF 8 (by decide) (hr 8 (by kernel_rfl)))
           subst hJ
           exact .inl ⟨(fun k b h => by cases h), .inl ⟨9, by decide, rfl, (.bool false), W1.drew, (by simp [go_sem, Act.eval, d3, d8]), rfl, rfl⟩⟩
          ·have d9 : a.tmps.getD 29 undef = (.bool false) := fdn (hF 9 (by decide) (hr 9 (by kernel_rfl)))
           subst hJ
           exact .inl ⟨(fun k b h => by cases h), .inl ⟨10, by decide, rfl, (.bool false), W1.drew, (by simp [go_sem, Act.eval, d9]), rfl, rfl⟩⟩
          ·have d10 : a.tmps.getD 30 undef = (.bool false) := fdn (hF 10 (by decide) (hr 10 (by kernel_rfl)))
           have f6 : a.tmps.getD 6 undef = (.pointer (some ⟨q, 0, none⟩)) := hf 6 (by kernel_rfl)
           subst hJ
           exact .inl ⟨(fun k b h => by cases h; exact ⟨10, by decide, rfl, d10⟩), .inl ⟨11, by decide, rfl, (.pointer (some ⟨q, 1, none⟩)), W1.drew, (by simp [go_sem, Act.eval, d10, f6]), rfl, rfl⟩⟩
          ·have d11 : a.tmps.getD 31 undef = (.pointer (some ⟨q, 1, none⟩)) := fdn (hF 11 (by decide) (hr 11 (by kernel_rfl)))
           have d10 : a.tmps.getD 30 undef = (.bool false) := fdn (hF 10 (by decide) (hr 10 (by kernel_rfl)))
           subst hJ
           exact .inl ⟨(fun k b h => by cases h; exact ⟨10, by decide, rfl, d10⟩), .inl ⟨12, by decide, rfl, (.int .i64 y), W1.drew, (by simp [go_sem, Act.eval, d11, d10, cq1]), rfl, rfl⟩⟩
          ·have d10 : a.tmps.getD 30 undef = (.bool false) := fdn (hF 10 (by decide) (hr 10 (by kernel_rfl)))
           have f0 : a.tmps.getD 0 undef = (.int .i64 n) := hf 0 (by kernel_rfl)
           subst hJ
           exact .inl ⟨(fun k b h => by cases h; exact ⟨10, by decide, rfl, d10⟩), .inl ⟨13, by decide, rfl, (.int .i64 n), W1.drew, (by simp [go_sem, Act.eval, d10, f0]), rfl, rfl⟩⟩
          ·have d12 : a.tmps.getD 32 undef = (.int .i64 y) := fdn (hF 12 (by decide) (hr 12 (by kernel_rfl)))
           have d13 : a.tmps.getD 33 undef = (.int .i64 n) := fdn (hF 13 (by decide) (hr 13 (by kernel_rfl)))
           have d10 : a.tmps.getD 30 undef = (.bool false) := fdn (hF 10 (by decide) (hr 10 (by kernel_rfl)))
           subst hJ
           exact .inl ⟨(fun k b h => by cases h; exact ⟨10, by decide, rfl, d10⟩), .inl ⟨14, by decide, rfl, (.bool false), W1.drew, (by simp [go_sem, Act.eval, d12, d13, d10, c3]), rfl, rfl⟩⟩
          ·have d10 : a.tmps.getD 30 undef = (.bool false) := fdn (hF 10 (by decide) (hr 10 (by kernel_rfl)))
           have d14 : a.tmps.getD 34 undef = (.bool false) := fdn (hF 14 (by decide) (hr 14 (by kernel_rfl)))
           subst hJ
           exact .inl ⟨(fun k b h => by cases h), .inl ⟨15, by decide, rfl, (.bool false), W1.drew, (by simp [go_sem, Act.eval, d10, d14]), rfl, rfl⟩⟩
          ·have d15 : a.tmps.getD 35 undef = (.bool false) := fdn (hF 15 (by decide) (hr 15 (by kernel_rfl)))
           subst hJ
           exact .inl ⟨(fun k b h => by cases h), .inl ⟨16, by decide, rfl, (.bool false), W1.drew, (by simp [go_sem, Act.eval, d15]), rfl, rfl⟩⟩
          ·have d16 : a.tmps.getD 36 undef = (.bool false) := fdn (hF 16 (by decide) (hr 16 (by kernel_rfl)))
           have f5 : a.tmps.getD 5 undef = (.int .i64 (k : Int)) := hf 5 (by kernel_rfl)
           subst hJ
           exact .inl ⟨(fun k b h => by cases h; exact ⟨16, by decide, rfl, d16⟩), .inl ⟨17, by decide, rfl, (.int .i64 (k : Int)), W1.drew, (by simp [go_sem, Act.eval, d16, f5]), rfl, rfl⟩⟩
          ·have d17 : a.tmps.getD 37 undef = (.int .i64 (k : Int)) := fdn (hF 17 (by decide) (hr 17 (by kernel_rfl)))
           have d16 : a.tmps.getD 36 undef = (.bool false) := fdn (hF 16 (by decide) (hr 16 (by kernel_rfl)))
           subst hJ
           exact .inl ⟨(fun k b h => by cases h; exact ⟨16, by decide, rfl, d16⟩), .inl ⟨18, by decide, rfl, (.bool false), W1.drew, (by simp [go_sem, Act.eval, d17, d16, c4]), rfl, rfl⟩⟩
          ·have d18 : a.tmps.getD 38 undef = (.bool false) := fdn (hF 18 (by decide) (hr 18 (by kernel_rfl)))
           have d16 : a.tmps.getD 36 undef = (.bool false) := fdn (hF 16 (by decide) (hr 16 (by kernel_rfl)))
           subst hJ
           exact .inl ⟨(fun k b h => by cases h; exact ⟨16, by decide, rfl, d16⟩), .inl ⟨19, by decide, rfl, (.bool false), W1.drew, (by simp [go_sem, Act.eval, d18, d16]), rfl, rfl⟩⟩
          ·have d19 : a.tmps.getD 39 undef = (.bool false) := fdn (hF 19 (by decide) (hr 19 (by kernel_rfl)))
           subst hJ
           exact .inr ⟨19, true, 19, rfl, by decide, rfl, (nhB d19 rfl), .inl ⟨20, by decide, rfl, rfl, rfl⟩⟩
          ·have d19 : a.tmps.getD 39 undef = (.bool false) := fdn (hF 19 (by decide) (hr 19 (by kernel_rfl)))
           subst hJ
           exact .inr ⟨19, true, 19, rfl, by decide, rfl, (nhB d19 rfl), .inl ⟨21, by decide, rfl, rfl, rfl⟩⟩
          ·have d19 : a.tmps.getD 39 undef = (.bool false) := fdn (hF 19 (by decide) (hr 19 (by kernel_rfl)))
           subst hJ
           exact .inr ⟨19, true, 19, rfl, by decide, rfl, (nhB d19 rfl), .inl ⟨22, by decide, rfl, rfl, rfl⟩⟩
          ·have d19 : a.tmps.getD 39 undef = (.bool false) := fdn (hF 19 (by decide) (hr 19 (by kernel_rfl)))
           subst hJ
           exact .inr ⟨19, true, 19, rfl, by decide, rfl, (nhB d19 rfl), .inl ⟨23, by decide, rfl, rfl, rfl⟩⟩
          ·have d19 : a.tmps.getD 39 undef = (.bool false) := fdn (hF 19 (by decide) (hr 19 (by kernel_rfl)))
           subst hJ
           exact .inr ⟨19, true, 19, rfl, by decide, rfl, (nhB d19 rfl), .inl ⟨24, by decide, rfl, rfl, rfl⟩⟩
          ·have d19 : a.tmps.getD 39 undef = (.bool false) := fdn (hF 19 (by decide) (hr 19 (by kernel_rfl)))
           subst hJ
           exact .inr ⟨19, true, 19, rfl, by decide, rfl, (nhB d19 rfl), .inl ⟨25, by decide, rfl, rfl, rfl⟩⟩
          ·have d19 : a.tmps.getD 39 undef = (.bool false) := fdn (hF 19 (by decide) (hr 19 (by kernel_rfl)))
           subst hJ
           exact .inr ⟨19, true, 19, rfl, by decide, rfl, (nhB d19 rfl), .inl ⟨26, by decide, rfl, rfl, rfl⟩⟩
          ·have d19 : a.tmps.getD 39 undef = (.bool false) := fdn (hF 19 (by decide) (hr 19 (by kernel_rfl)))
           subst hJ
           exact .inr ⟨19, true, 19, rfl, by decide, rfl, (nhB d19 rfl), .inl ⟨27, by decide, rfl, rfl, rfl⟩⟩
          ·have d19 : a.tmps.getD 39 undef = (.bool false) := fdn (hF 19 (by decide) (hr 19 (by kernel_rfl)))
           subst hJ
           exact .inr ⟨19, true, 19, rfl, by decide, rfl, (nhB d19 rfl), .inl ⟨28, by decide, rfl, rfl, rfl⟩⟩
          ·have d19 : a.tmps.getD 39 undef = (.bool false) := fdn (hF 19 (by decide) (hr 19 (by kernel_rfl)))
           subst hJ
           exact .inr ⟨19, true, 19, rfl, by decide, rfl, (nhB d19 rfl), .inl ⟨29, by decide, rfl, rfl, rfl⟩⟩
          ·have d29 : a.tmps.getD 49 undef = undef := fdn (hF 29 (by decide) (hr 29 (by kernel_rfl)))
           subst hJ
           exact .inr ⟨29, false, 29, rfl, by decide, rfl, (nhU d29), .inl ⟨30, by decide, rfl, rfl, rfl⟩⟩
          ·have d29 : a.tmps.getD 49 undef = undef := fdn (hF 29 (by decide) (hr 29 (by kernel_rfl)))
           subst hJ
           exact .inr ⟨29, false, 29, rfl, by decide, rfl, (nhU d29), .inl ⟨31, by decide, rfl, rfl, rfl⟩⟩
          ·have d29 : a.tmps.getD 49 undef = undef := fdn (hF 29 (by decide) (hr 29 (by kernel_rfl)))
           subst hJ
           exact .inr ⟨29, false, 29, rfl, by decide, rfl, (nhU d29), .inl ⟨32, by decide, rfl, rfl, rfl⟩⟩
          ·have d29 : a.tmps.getD 49 undef = undef := fdn (hF 29 (by decide) (hr 29 (by kernel_rfl)))
           subst hJ
           exact .inr ⟨29, false, 29, rfl, by decide, rfl, (nhU d29), .inl ⟨33, by decide, rfl, rfl, rfl⟩⟩
          ·have d29 : a.tmps.getD 49 undef = undef := fdn (hF 29 (by decide) (hr 29 (by kernel_rfl)))
           subst hJ
           exact .inr ⟨29, false, 29, rfl, by decide, rfl, (nhU d29), .inl ⟨34, by decide, rfl, rfl, rfl⟩⟩
          ·have d29 : a.tmps.getD 49 undef = undef := fdn (hF 29 (by decide) (hr 29 (by kernel_rfl)))
           subst hJ
           exact .inr ⟨29, false, 29, rfl, by decide, rfl, (nhU d29), .inl ⟨35, by decide, rfl, rfl, rfl⟩⟩
          ·have d29 : a.tmps.getD 49 undef = undef := fdn (hF 29 (by decide) (hr 29 (by kernel_rfl)))
           subst hJ
           exact .inr ⟨29, false, 29, rfl, by decide, rfl, (nhU d29), .inl ⟨36, by decide, rfl, rfl, rfl⟩⟩
          ·have d29 : a.tmps.getD 49 undef = undef := fdn (hF 29 (by decide) (hr 29 (by kernel_rfl)))
           subst hJ
           exact .inr ⟨29, false, 29, rfl, by decide, rfl, (nhU d29), .inl ⟨37, by decide, rfl, rfl, rfl⟩⟩
          ·have d29 : a.tmps.getD 49 undef = undef := fdn (hF 29 (by decide) (hr 29 (by kernel_rfl)))
           subst hJ
           exact .inr ⟨29, false, 29, rfl, by decide, rfl, (nhU d29), .inl ⟨38, by decide, rfl, rfl, rfl⟩⟩
          ·have d29 : a.tmps.getD 49 undef = undef := fdn (hF 29 (by decide) (hr 29 (by kernel_rfl)))
           subst hJ
           exact .inr ⟨29, false, 29, rfl, by decide, rfl, (nhU d29), .inl ⟨39, by decide, rfl, rfl, rfl⟩⟩
          ·have d39 : a.tmps.getD 59 undef = undef := fdn (hF 39 (by decide) (hr 39 (by kernel_rfl)))
           subst hJ
           exact .inr ⟨39, true, 39, rfl, by decide, rfl, (nhU d39), .inl ⟨40, by decide, rfl, rfl, rfl⟩⟩
          ·have d39 : a.tmps.getD 59 undef = undef := fdn (hF 39 (by decide) (hr 39 (by kernel_rfl)))
           subst hJ
           exact .inr ⟨39, true, 39, rfl, by decide, rfl, (nhU d39), .inl ⟨41, by decide, rfl, rfl, rfl⟩⟩
          ·have d39 : a.tmps.getD 59 undef = undef := fdn (hF 39 (by decide) (hr 39 (by kernel_rfl)))
           subst hJ
           exact .inr ⟨39, true, 39, rfl, by decide, rfl, (nhU d39), .inl ⟨42, by decide, rfl, rfl, rfl⟩⟩
          ·have d39 : a.tmps.getD 59 undef = undef := fdn (hF 39 (by decide) (hr 39 (by kernel_rfl)))
           subst hJ
           exact .inr ⟨39, true, 39, rfl, by decide, rfl, (nhU d39), .inl ⟨43, by decide, rfl, rfl, rfl⟩⟩
          ·have d39 : a.tmps.getD 59 undef = undef := fdn (hF 39 (by decide) (hr 39 (by kernel_rfl)))
           subst hJ
           exact .inr ⟨39, true, 39, rfl, by decide, rfl, (nhU d39), .inl ⟨44, by decide, rfl, rfl, rfl⟩⟩
          ·have d39 : a.tmps.getD 59 undef = undef := fdn (hF 39 (by decide) (hr 39 (by kernel_rfl)))
           subst hJ
           exact .inr ⟨39, true, 39, rfl, by decide, rfl, (nhU d39), .inl ⟨45, by decide, rfl, rfl, rfl⟩⟩
          ·have d39 : a.tmps.getD 59 undef = undef := fdn (hF 39 (by decide) (hr 39 (by kernel_rfl)))
           subst hJ
           exact .inr ⟨39, true, 39, rfl, by decide, rfl, (nhU d39), .inl ⟨46, by decide, rfl, rfl, rfl⟩⟩
          ·have d39 : a.tmps.getD 59 undef = undef := fdn (hF 39 (by decide) (hr 39 (by kernel_rfl)))
           subst hJ
           exact .inr ⟨39, true, 39, rfl, by decide, rfl, (nhU d39), .inl ⟨47, by decide, rfl, rfl, rfl⟩⟩
          ·have d39 : a.tmps.getD 59 undef = undef := fdn (hF 39 (by decide) (hr 39 (by kernel_rfl)))
           subst hJ
           exact .inr ⟨39, true, 39, rfl, by decide, rfl, (nhU d39), .inl ⟨48, by decide, rfl, rfl, rfl⟩⟩
          ·have d29 : a.tmps.getD 49 undef = undef := fdn (hF 29 (by decide) (hr 29 (by kernel_rfl)))
           subst hJ
           exact .inr ⟨29, false, 29, rfl, by decide, rfl, (nhU d29), .inl ⟨49, by decide, rfl, rfl, rfl⟩⟩
          ·have d19 : a.tmps.getD 39 undef = (.bool false) := fdn (hF 19 (by decide) (hr 19 (by kernel_rfl)))
           subst hJ
           exact .inr ⟨19, true, 19, rfl, by decide, rfl, (nhB d19 rfl), .inl ⟨50, by decide, rfl, rfl, rfl⟩⟩
          ·have d19 : a.tmps.getD 39 undef = (.bool false) := fdn (hF 19 (by decide) (hr 19 (by kernel_rfl)))
           have d16 : a.tmps.getD 36 undef = (.bool false) := fdn (hF 16 (by decide) (hr 16 (by kernel_rfl)))
           subst hJ
           exact .inl ⟨(fun k b h => by cases h; exact ⟨16, by decide, rfl, d16⟩), .inl ⟨51, by decide, rfl, (.bool false), W1.drew, (by simp [go_sem, Act.eval, d19, d16]), rfl, rfl⟩⟩
          ·have d16 : a.tmps.getD 36 undef = (.bool false) := fdn (hF 16 (by decide) (hr 16 (by kernel_rfl)))
           have d51 : a.tmps.getD 71 undef = (.bool false) := fdn (hF 51 (by decide) (hr 51 (by kernel_rfl)))
           subst hJ
           exact .inl ⟨(fun k b h => by cases h), .inl ⟨52, by decide, rfl, (.bool false), W1.drew, (by simp [go_sem, Act.eval, d16, d51]), rfl, rfl⟩⟩
         case finrt =>
          intro d vs Wrt hall hJ hF
          have h0 : vs 0 = (.pointer (some ⟨q, 0, none⟩)) := hF 0 (by decide)
          have h1 : vs 1 = (.int .i64 x) := hF 1 (by decide)
          have h2 : vs 2 = (.bool false) := hF 2 (by decide)
          have h3 : vs 3 = (.bool false) := hF 3 (by decide)
          have h4 : vs 4 = (.pointer (some ⟨q, 0, none⟩)) := hF 4 (by decide)
          have h5 : vs 5 = (.int .i64 x) := hF 5 (by decide)
          have h6 : vs 6 = (.pointer (some ⟨q, 1, none⟩)) := hF 6 (by decide)
          have h7 : vs 7 = (.int .i64 y) := hF 7 (by decide)
          have h8 : vs 8 = (.bool false) := hF 8 (by decide)
          have h9 : vs 9 = (.bool false) := hF 9 (by decide)
          have h10 : vs 10 = (.bool false) := hF 10 (by decide)
          have h11 : vs 11 = (.pointer (some ⟨q, 1, none⟩)) := hF 11 (by decide)
          have h12 : vs 12 = (.int .i64 y) := hF 12 (by decide)
          have h13 : vs 13 = (.int .i64 n) := hF 13 (by decide)
          have h14 : vs 14 = (.bool false) := hF 14 (by decide)
          have h15 : vs 15 = (.bool false) := hF 15 (by decide)
          have h16 : vs 16 = (.bool false) := hF 16 (by decide)
          have h17 : vs 17 = (.int .i64 (k : Int)) := hF 17 (by decide)
          have h18 : vs 18 = (.bool false) := hF 18 (by decide)
          have h19 : vs 19 = (.bool false) := hF 19 (by decide)
          have h20 : vs 20 = undef := hF 20 (by decide)
          have h21 : vs 21 = undef := hF 21 (by decide)
          have h22 : vs 22 = undef := hF 22 (by decide)
          have h23 : vs 23 = undef := hF 23 (by decide)
          have h24 : vs 24 = undef := hF 24 (by decide)
          have h25 : vs 25 = undef := hF 25 (by decide)
          have h26 : vs 26 = undef := hF 26 (by decide)
          have h27 : vs 27 = undef := hF 27 (by decide)
          have h28 : vs 28 = undef := hF 28 (by decide)
          have h29 : vs 29 = undef := hF 29 (by decide)
          have h30 : vs 30 = undef := hF 30 (by decide)
          have h31 : vs 31 = undef := hF 31 (by decide)
          have h32 : vs 32 = undef := hF 32 (by decide)
          have h33 : vs 33 = undef := hF 33 (by decide)
          have h34 : vs 34 = undef := hF 34 (by decide)
          have h35 : vs 35 = undef := hF 35 (by decide)
          have h36 : vs 36 = undef := hF 36 (by decide)
          have h37 : vs 37 = undef := hF 37 (by decide)
          have h38 : vs 38 = undef := hF 38 (by decide)
          have h39 : vs 39 = undef := hF 39 (by decide)
          have h40 : vs 40 = undef := hF 40 (by decide)
          have h41 : vs 41 = undef := hF 41 (by decide)
          have h42 : vs 42 = undef := hF 42 (by decide)
          have h43 : vs 43 = undef := hF 43 (by decide)
          have h44 : vs 44 = undef := hF 44 (by decide)
          have h45 : vs 45 = undef := hF 45 (by decide)
          have h46 : vs 46 = undef := hF 46 (by decide)
          have h47 : vs 47 = undef := hF 47 (by decide)
          have h48 : vs 48 = undef := hF 48 (by decide)
          have h49 : vs 49 = undef := hF 49 (by decide)
          have h50 : vs 50 = undef := hF 50 (by decide)
          have h51 : vs 51 = (.bool false) := hF 51 (by decide)
          have h52 : vs 52 = (.bool false) := hF 52 (by decide)
          clear hF
          show (_ : Exit → Act → World → Prop) Exit.normal (puts _ vs 53 _) Wrt
          simp only [puts, h0, h1, h2, h3, h4, h5, h6, h7, h8, h9, h10, h11, h12, h13, h14, h15, h16, h17, h18, h19, h20, h21, h22, h23, h24, h25, h26, h27, h28, h29, h30, h31, h32, h33, h34, h35, h36, h37, h38, h39, h40, h41, h42, h43, h44, h45, h46, h47, h48, h49, h50, h51, h52, List.getD_cons_zero, List.getD_cons_succ]
          clear h0 h1 h2 h3 h4 h5 h6 h7 h8 h9 h10 h11 h12 h13 h14 h15 h16 h17 h18 h19 h20 h21 h22 h23 h24 h25 h26 h27 h28 h29 h30 h31 h32 h33 h34 h35 h36 h37 h38 h39 h40 h41 h42 h43 h44 h45 h46 h47 h48 h49 h50 h51 h52
          subst hJ
          simp only [Act.put, List.setIfInBounds_toArray, List.set_cons_succ, List.set_cons_zero]
          clear hall
          go_wp2_with (fail)
          go_roundw
          case rel => exact ⟨k + 1, by go_num, by omega, HE.out, HB2.out⟩
          case measure => simp [intOf] <;> omega
    ·obtain rfl : k = m := by omega
     have HE : Hid (R = true) := HT.out ⟨HNN.out.1, HNN.out.2, fun j hj => HK.out j (by have := HM.out; omega)⟩
     go_wp2_with (fail)
     go_ret
     rw [HE.out]
     exact ⟨rfl, HB.out⟩

end Go.Proofs.Ytenilbofncfbdaa

