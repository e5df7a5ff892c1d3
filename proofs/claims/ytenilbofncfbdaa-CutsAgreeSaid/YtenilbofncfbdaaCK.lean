/- Cuts: the law's links, ints: walked (by program: wip/tools/gen_cl1.py).
Cuts: Fit, of the program and of the document: walked (by program: wip/tools/gen_cl2.py). -/
import Derived.Test.YtenilbofncfbdaaCD
import Derived.Test.YtenilbofncfbdaaCE
import Derived.Test.YtenilbofncfbdaaCJ
set_option linter.unusedSimpArgs false
set_option linter.unusedVariables false
namespace Go.Proofs.Ytenilbofncfbdaa
open Go.RowKit

theorem take_eq {α : Type} {xs ys : List α} {k : Nat} (h : xs.take k = ys.take k) (h1 : k < xs.length) (h2 : k < ys.length) (e : xs[k] = ys[k]) : xs.take (k + 1) = ys.take (k + 1) := by
  rw [List.take_add_one, List.take_add_one, h, List.getElem?_eq_getElem h1, List.getElem?_eq_getElem h2, e]
theorem take_ne {α : Type} {xs ys : List α} {k : Nat} (h1 : k < xs.length) (h2 : k < ys.length) (e : xs[k] ≠ ys[k]) : xs ≠ ys := by
  rintro rfl; exact e rfl

set_option maxRecDepth 100000 in
set_option maxHeartbeats 4000000 in
theorem links_any (W : World) (av bv : Value) (xs ys : Ipr) (ha : Lks W W.heap.size av xs) (hb : Lks W W.heap.size bv ys) :
    Calls Try.prog 14 #[av, bv] W fun e w' => e = .returned (.bool (decide (xs = ys))) ∧ Below W.heap.size W w' := by
  obtain ⟨ao, ac, rfl, hac, hal⟩ := ha.slice
  obtain ⟨bo, bc, rfl, hbc, hbl⟩ := hb.slice
  have HA := Lib.hid ha
  have HB := Lib.hid hb
  obtain ⟨R, hR⟩ : ∃ R, R = decide (xs = ys) := ⟨_, rfl⟩
  rw [← hR]
  have HR := Lib.hid hR
  obtain ⟨m, hm⟩ : ∃ m, m = xs.length := ⟨_, rfl⟩
  obtain ⟨n, hn⟩ : ∃ m, m = ys.length := ⟨_, rfl⟩
  have HM := Lib.hid hm
  have HN := Lib.hid hn
  rw [← hm] at HA hac hal ⊢
  rw [← hn] at HB hbc hbl ⊢
  by_cases hmn : m = n
  · subst hmn
    clear ha hb hR hm hn
    go_enter Try.func14, Try.ntmps14
    go_wp2_with (fail)
    go_loopw [13] (fun kv wx => ∃ k : Nat, kv = .int .i64 (k : Int) ∧ k ≤ m ∧ Hid (xs.take k = ys.take k) ∧ Hid (Below W.heap.size W wx)) (fun kv _ => m - (intOf kv).toNat)
    case atStart => exact ⟨0, rfl, Nat.zero_le _, by show _ = _; simp, Below.refl _ _⟩
    case round =>
      obtain ⟨k, rfl, hk, HT, HBE⟩ := hrel
      by_cases hlt : k < m
      · have hkx : k < xs.length := by have := HM.out; omega
        have hky : k < ys.length := by have := HN.out; omega
        obtain ⟨b1, o1, e1, hl1, cA1, cB1⟩ := Lks.at (HA.out.below HBE.out (Nat.le_refl _)) k hkx
        obtain ⟨b2, o2, e2, hl2, cA2, cB2⟩ := Lks.at (HB.out.below HBE.out (Nat.le_refl _)) k hky
        subst e1 e2
        have g1 : xs.getD k (0, 0) = xs[k] := by simp [List.getD, hkx]
        have g2 : ys.getD k (0, 0) = ys[k] := by simp [List.getD, hky]
        rw [g1] at cA1 cB1
        rw [g2] at cA2 cB2
        obtain ⟨x1, hx1⟩ : ∃ x, x = xs[k].1 := ⟨_, rfl⟩
        obtain ⟨x2, hx2⟩ : ∃ x, x = xs[k].2 := ⟨_, rfl⟩
        obtain ⟨y1, hy1⟩ : ∃ x, x = ys[k].1 := ⟨_, rfl⟩
        obtain ⟨y2, hy2⟩ : ∃ x, x = ys[k].2 := ⟨_, rfl⟩
        rw [← hx1] at cA1
        rw [← hx2] at cB1
        rw [← hy1] at cA2
        rw [← hy2] at cB2
        have HEQ : Hid (x1 = y1 → x2 = y2 → xs.take (k + 1) = ys.take (k + 1)) := fun a b => take_eq HT.out hkx hky (Prod.ext (by rw [← hx1, ← hy1, a]) (by rw [← hx2, ← hy2, b]))
        have HNE : Hid (x1 ≠ y1 ∨ x2 ≠ y2 → R = false) := by
          intro h
          rw [HR.out, decide_eq_false_iff_not]
          refine take_ne hkx hky ?_
          intro e
          rcases h with h | h
          · exact h (by rw [hx1, hy1, e])
          · exact h (by rw [hx2, hy2, e])
        have hw1 : b1 < wr.heap.size := by have := HBE.out.size; omega
        have hw2 : b2 < wr.heap.size := by have := HBE.out.size; omega
        clear hx1 hx2 hy1 hy2 g1 g2
        by_cases h1 : x1 = y1
        · by_cases h2 : x2 = y2
          · have HE := Lib.hid (HEQ.out h1 h2)
            subst h1 h2
            go_wp2_with (fail)
            go_quiet (fail)
            go_wp2_with (fail)
            go_roundw
            case rel => exact ⟨k + 1, by go_num, by omega, HE.out, HBE.out.trans (bdN _ _ _)⟩
            case measure => simp [intOf] <;> omega
          · have HE := Lib.hid (HNE.out (.inr h2))
            subst h1
            have hb2 : (x2 == y2) = false := by simpa using h2
            go_wp2_with (fail)
            go_quiet (fail)
            go_wp2_with (fail)
            go_ret
            rw [HE.out]
            exact ⟨rfl, HBE.out.trans (bdN _ _ _)⟩
        · have HE := Lib.hid (HNE.out (.inl h1))
          have hb1 : (x1 == y1) = false := by simpa using h1
          go_wp2_with (fail)
          go_quiet (fail)
          go_wp2_with (fail)
          go_ret
          rw [HE.out]
          exact ⟨rfl, HBE.out.trans (bdN _ _ _)⟩
      · obtain rfl : k = m := by omega
        have HE : Hid (R = true) := by
          show _ = _
          rw [HR.out, decide_eq_true_eq]
          have h0 := HT.out
          rw [show xs.take k = xs by rw [HM.out, List.take_length], show ys.take k = ys by rw [HN.out, List.take_length]] at h0
          exact h0
        go_wp2_with (fail)
        go_ret
        rw [HE.out]
        exact ⟨rfl, HBE.out⟩
  · have HE : Hid (R = false) := by
      show _ = _
      rw [HR.out, decide_eq_false_iff_not]
      rintro rfl
      exact hmn (HM.out.trans HN.out.symm)
    have hmb : ((m : Int) == (n : Int)) = false := by rw [beq_eq_false_iff_ne]; omega
    clear ha hb hR hm hn hmn
    go_enter Try.func14, Try.ntmps14
    go_wp2_with (fail)
    go_ret
    rw [HE.out]
    exact ⟨rfl, Below.refl _ _⟩

set_option maxRecDepth 100000 in
set_option maxHeartbeats 4000000 in
theorem ints_any (W : World) (av bv : Value) (xs ys : List Int) (ha : Its W W.heap.size av xs) (hb : Its W W.heap.size bv ys) :
    Calls Try.prog 26 #[av, bv] W fun e w' => e = .returned (.bool (decide (xs = ys))) ∧ Below W.heap.size W w' := by
  obtain ⟨ao, ac, rfl, hac, hal⟩ := ha.slice
  obtain ⟨bo, bc, rfl, hbc, hbl⟩ := hb.slice
  have HA := Lib.hid ha
  have HB := Lib.hid hb
  obtain ⟨R, hR⟩ : ∃ R, R = decide (xs = ys) := ⟨_, rfl⟩
  rw [← hR]
  have HR := Lib.hid hR
  obtain ⟨m, hm⟩ : ∃ m, m = xs.length := ⟨_, rfl⟩
  obtain ⟨n, hn⟩ : ∃ m, m = ys.length := ⟨_, rfl⟩
  have HM := Lib.hid hm
  have HN := Lib.hid hn
  rw [← hm] at HA hac hal ⊢
  rw [← hn] at HB hbc hbl ⊢
  by_cases hmn : m = n
  · subst hmn
    clear ha hb hR hm hn
    go_enter Try.func26, Try.ntmps26
    go_wp2_with (fail)
    go_loopw [13] (fun kv wx => ∃ k : Nat, kv = .int .i64 (k : Int) ∧ k ≤ m ∧ Hid (xs.take k = ys.take k) ∧ Hid (Below W.heap.size W wx)) (fun kv _ => m - (intOf kv).toNat)
    case atStart => exact ⟨0, rfl, Nat.zero_le _, by show _ = _; simp, Below.refl _ _⟩
    case round =>
      obtain ⟨k, rfl, hk, HT, HBE⟩ := hrel
      by_cases hlt : k < m
      · have hkx : k < xs.length := by have := HM.out; omega
        have hky : k < ys.length := by have := HN.out; omega
        obtain ⟨b1, o1, e1, hl1, cA1⟩ := Its.at (HA.out.below HBE.out (Nat.le_refl _)) k hkx
        obtain ⟨b2, o2, e2, hl2, cA2⟩ := Its.at (HB.out.below HBE.out (Nat.le_refl _)) k hky
        subst e1 e2
        have g1 : xs.getD k 0 = xs[k] := by simp [List.getD, hkx]
        have g2 : ys.getD k 0 = ys[k] := by simp [List.getD, hky]
        rw [g1] at cA1
        rw [g2] at cA2
        obtain ⟨x1, hx1⟩ : ∃ x, x = xs[k] := ⟨_, rfl⟩
        obtain ⟨y1, hy1⟩ : ∃ x, x = ys[k] := ⟨_, rfl⟩
        rw [← hx1] at cA1
        rw [← hy1] at cA2
        have HEQ : Hid (x1 = y1 → xs.take (k + 1) = ys.take (k + 1)) := fun a => take_eq HT.out hkx hky (by rw [← hx1, ← hy1, a])
        have HNE : Hid (x1 ≠ y1 → R = false) := by
          intro h
          rw [HR.out, decide_eq_false_iff_not]
          exact take_ne hkx hky (by intro e; exact h (by rw [hx1, hy1, e]))
        have hw1 : b1 < wr.heap.size := by have := HBE.out.size; omega
        have hw2 : b2 < wr.heap.size := by have := HBE.out.size; omega
        clear hx1 hy1 g1 g2
        by_cases h1 : x1 = y1
        · have HE := Lib.hid (HEQ.out h1)
          subst h1
          go_wp2_with (fail)
          go_quiet (fail)
          go_wp2_with (fail)
          go_roundw
          case rel => exact ⟨k + 1, by go_num, by omega, HE.out, HBE.out.trans (bdN _ _ _)⟩
          case measure => simp [intOf] <;> omega
        · have HE := Lib.hid (HNE.out h1)
          have hb1 : (x1 == y1) = false := by simpa using h1
          go_wp2_with (fail)
          go_quiet (fail)
          go_wp2_with (fail)
          go_ret
          rw [HE.out]
          exact ⟨rfl, HBE.out.trans (bdN _ _ _)⟩
      · obtain rfl : k = m := by omega
        have HE : Hid (R = true) := by
          show _ = _
          rw [HR.out, decide_eq_true_eq]
          have h0 := HT.out
          rw [show xs.take k = xs by rw [HM.out, List.take_length], show ys.take k = ys by rw [HN.out, List.take_length]] at h0
          exact h0
        go_wp2_with (fail)
        go_ret
        rw [HE.out]
        exact ⟨rfl, HBE.out⟩
  · have HE : Hid (R = false) := by
      show _ = _
      rw [HR.out, decide_eq_false_iff_not]
      rintro rfl
      exact hmn (HM.out.trans HN.out.symm)
    have hmb : ((m : Int) == (n : Int)) = false := by rw [beq_eq_false_iff_ne]; omega
    clear ha hb hR hm hn hmn
    go_enter Try.func26, Try.ntmps26
    go_wp2_with (fail)
    go_ret
    rw [HE.out]
    exact ⟨rfl, Below.refl _ _⟩

end Go.Proofs.Ytenilbofncfbdaa

namespace Go.Proofs.Ytenilbofncfbdaa
open Go.RowKit

/-- is the k-th pair fit? -/
def fitAt (n : Int) (xs : Ipr) (k : Nat) : Prop :=
 0 ≤ (xs.getD k (0, 0)).1 ∧ (xs.getD k (0, 0)).1 < (xs.getD k (0, 0)).2 ∧ (xs.getD k (0, 0)).2 < n ∧ (0 < k → (xs.getD (k - 1) (0, 0)).1 < (xs.getD k (0, 0)).1 ∨ (xs.getD (k - 1) (0, 0)).1 = (xs.getD k (0, 0)).1 ∧ (xs.getD (k - 1) (0, 0)).2 < (xs.getD k (0, 0)).2)
def FitX (n : Int) (xs : Ipr) : Prop := 1 ≤ n ∧ n ≤ 16 ∧ ∀ k, k < xs.length → fitAt n xs k
noncomputable def fitB (n : Int) (xs : Ipr) : Bool := @decide (FitX n xs) (Classical.propDecidable _)
theorem fitB_true {n : Int} {xs : Ipr} (h : FitX n xs) : fitB n xs = true := by unfold fitB; exact @decide_eq_true _ (Classical.propDecidable _) h
theorem fitB_false {n : Int} {xs : Ipr} (h : ¬ FitX n xs) : fitB n xs = false := by unfold fitB; exact @decide_eq_false _ (Classical.propDecidable _) h
/-- fit pairs are pairs of nodes -/
theorem FitX.nodes {n : Int} {xs : Ipr} (h : FitX n xs) : ∃ (m : Nat) (L : Prs), n = (m : Int) ∧ xs = prI L ∧ FitL m L ∧ 1 ≤ m ∧ m ≤ 16 := by
 obtain ⟨h1, h2, h3⟩ := h
 refine ⟨n.toNat, xs.map fun p => (p.1.toNat, p.2.toNat), by omega, ?_, ?_, by omega, by omega⟩
 ·unfold prI
  rw [List.map_map]
  refine List.ext_getElem (by simp) fun k hk1 hk2 => ?_
  have := h3 k hk1
  unfold fitAt at this
  have e : xs.getD k (0, 0) = xs[k] := by simp [List.getD, hk1]
  rw [e] at this
  simp only [List.getElem_map, Function.comp]
  exact Prod.ext (by show xs[k].1 = ((xs[k].1.toNat : Nat) : Int); omega) (by show xs[k].2 = ((xs[k].2.toNat : Nat) : Int); omega)
 ·have gA : ∀ k, k < xs.length → endA (xs.map fun p => (p.1.toNat, p.2.toNat)) k = (xs.getD k (0, 0)).1.toNat ∧ endB (xs.map fun p => (p.1.toNat, p.2.toNat)) k = (xs.getD k (0, 0)).2.toNat := fun k hk => by
   unfold endA endB
   simp [List.getD, hk]
  have step : ∀ d i, i + d + 1 < xs.length → (xs.getD i (0, 0)).1 < (xs.getD (i + d + 1) (0, 0)).1 ∨ (xs.getD i (0, 0)).1 = (xs.getD (i + d + 1) (0, 0)).1 ∧ (xs.getD i (0, 0)).2 < (xs.getD (i + d + 1) (0, 0)).2 := by
   intro d
   induction d with
   | zero => intro i hi; have := (h3 (i + 1) hi).2.2.2 (by omega); simpa using this
   | succ d ih =>
    intro i hi
    have a := ih i (by omega)
    have b := (h3 (i + d + 1 + 1) (by omega)).2.2.2 (by omega)
    rw [show i + d + 1 + 1 - 1 = i + d + 1 by omega] at b
    rw [show i + (d + 1) + 1 = i + d + 1 + 1 by omega]
    omega
  refine ⟨fun k hk => ?_, fun i j hij hj => ?_⟩
  ·rw [List.length_map] at hk
   obtain ⟨e1, e2⟩ := gA k hk
   have := h3 k hk
   unfold fitAt at this
   rw [e1, e2]
   omega
  ·rw [List.length_map] at hj
   obtain ⟨e1, e2⟩ := gA i (by omega)
   obtain ⟨e3, e4⟩ := gA j hj
   have a := h3 i (by omega)
   have b := h3 j hj
   unfold fitAt at a b
   have s := step (j - i - 1) i (by omega)
   rw [show i + (j - i - 1) + 1 = j by omega] at s
   rw [e1, e2, e3, e4]
   omega
theorem fit_len {n : Nat} {L : Prs} (h : FitL n L) (hn : n ≤ 16) : L.length ≤ 256 := by
 have hnd : L.Nodup := by
  rw [fit_row] at h
  exact h.2.imp fun {p q} hpq e => by subst e; omega
 have hinj : (L.map fun p => p.1 * 16 + p.2).Nodup := by
  rw [List.nodup_iff_pairwise_ne] at hnd ⊢
  rw [List.pairwise_map]
  refine hnd.imp_of_mem fun {p q} hp hq hpq e => hpq ?_
  have a := (fit_row.1 h).1 p hp
  have b := (fit_row.1 h).1 q hq
  exact Prod.ext (by omega) (by omega)
 have hlt : ∀ x ∈ L.map fun p => p.1 * 16 + p.2, x < 256 := by
  intro x hx
  obtain ⟨p, hp, rfl⟩ := List.mem_map.1 hx
  have a := (fit_row.1 h).1 p hp
  omega
 have := nodup_bound hinj hlt
 rwa [List.length_map] at this

end Go.Proofs.Ytenilbofncfbdaa

