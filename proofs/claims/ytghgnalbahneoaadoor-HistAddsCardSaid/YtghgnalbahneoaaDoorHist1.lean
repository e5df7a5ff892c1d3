/- Histograms: plain words; bounds that rise; slices.IsSorted. -/
import Derived.Test.YtghgnalbahneoaaDoorInts64
namespace Go.Proofs.YtghgnalbahneoaaDoor
open Go.RowKit

/-- bounds are some: one to 64, rising -/
def Rising (l : List Int) : Prop := 1 ≤ l.length ∧ l.length ≤ 64 ∧ ∀ i, i + 1 < l.length → l.getD i 0 < l.getD (i + 1) 0
noncomputable def risB (l : List Int) : Bool := @decide (Rising l) (Classical.propDecidable _)
theorem risB_t {l : List Int} (h : Rising l) : risB l = true := by exact @decide_eq_true _ (Classical.propDecidable _) h
theorem risB_f {l : List Int} (h : ¬ Rising l) : risB l = false := by exact @decide_eq_false _ (Classical.propDecidable _) h
theorem risB_iff {l : List Int} : risB l = true ↔ Rising l := by exact @decide_eq_true_iff _ (Classical.propDecidable _)

set_option maxRecDepth 100000 in
set_option maxHeartbeats 1000000 in
theorem rising_any (v : Value) (l : List Int) (w : World) (hi : Its w w.heap.size v l) : Calls Tryd.prog 48 #[v] w fun e w' => e = .returned (.bool (risB l)) ∧ ∃ n, w' = w.drewN n := by
  rcases hi.form with ⟨rfl, ao, cap, rfl, -⟩ | ⟨hpos, b, off, cap, rfl, hcap, hm, hb, hc⟩
  · rw [risB_f (fun h => by have := h.1; simp at this)]
    go_enter Tryd.func48, Tryd.ntmps48
    go_wp2
    go_ret
    exact ⟨rfl, 0, rfl⟩
  · obtain ⟨n, hn⟩ : ∃ n, n = l.length := ⟨_, rfl⟩
    rw [← hn] at hpos hcap hm hc ⊢
    have HC := Lib.hid hc
    clear hc
    have HN := Lib.hid hn
    clear hn
    by_cases h64 : 64 < n
    · rw [risB_f (fun h => by have := h.2.1; have := HN.out; omega)]
      go_enter Tryd.func48, Tryd.ntmps48
      go_wp2
      go_ret
      exact ⟨rfl, 0, rfl⟩
    · go_enter Tryd.func48, Tryd.ntmps48
      go_wp2
      go_loopw [3] (fun i wr => ∃ k : Nat, 1 ≤ k ∧ k ≤ n ∧ i = .int .i64 (k : Int) ∧ Hid (∀ j, j + 1 < k → l.getD j 0 < l.getD (j + 1) 0) ∧ Hid (∃ d, wr = w.drewN d)) (fun i _ => n - (intOf i).toNat)
      case atStart => exact ⟨1, by omega, by omega, rfl, fun j hj => absurd hj (by omega), 0, rfl⟩
      case round =>
        obtain ⟨k, hk1, hk, rfl, HK, HW⟩ := hrel
        obtain ⟨d, rfl⟩ := HW.out
        by_cases hlt : k < n
        · obtain ⟨m, rfl⟩ : ∃ m, k = m + 1 := ⟨k - 1, by omega⟩
          have e1 := HC.out m (by omega)
          have e2 := HC.out (m + 1) hlt
          obtain ⟨x, hx⟩ : ∃ x, x = l.getD m 0 := ⟨_, rfl⟩
          obtain ⟨y, hy⟩ : ∃ y, y = l.getD (m + 1) 0 := ⟨_, rfl⟩
          rw [← hx] at e1
          rw [← hy] at e2
          have HX := Lib.hid hx
          have HY := Lib.hid hy
          have hki : ((m + 1 : Nat) : Int) < (n : Int) := by omega
          have hk0 : 0 ≤ (m : Int) ∧ (m : Int) < (n : Int) := by omega
          have hs1 : ((m + 1 : Nat) : Int) - 1 = (m : Int) := by omega
          clear hx hy
          by_cases hxy : x < y
          · have HK2 : Hid (∀ j, j + 1 < m + 1 + 1 → l.getD j 0 < l.getD (j + 1) 0) := fun j hj => by
              rcases Nat.lt_or_ge (j + 1) (m + 1) with h | h
              · exact HK.out j h
              · obtain rfl : j = m := by omega
                rw [← HX.out, ← HY.out]; exact hxy
            go_wp2
            go_quiet (fail)
            go_wp2
            go_roundw
            case rel => exact ⟨m + 1 + 1, by omega, by omega, by go_num, HK2, _, rfl⟩
            case measure => simp [intOf]; omega
          · have HF : Hid (risB l = false) := risB_f (fun h => by
              have := h.2.2 m (by have := HN.out; omega)
              rw [← HX.out, ← HY.out] at this; omega)
            go_wp2
            go_quiet (fail)
            go_wp2
            go_ret
            rw [HF.out]
            exact ⟨rfl, _, World.drewN_drewN _ _ _⟩
        · have HF : Hid (risB l = true) := risB_t ⟨by have := HN.out; omega, by have := HN.out; omega, fun j hj => HK.out j (by have := HN.out; omega)⟩
          go_wp2
          go_ret
          rw [HF.out]
          exact ⟨rfl, _, rfl⟩

set_option maxRecDepth 100000 in
set_option maxHeartbeats 1000000 in
theorem rbounds_any (v : Value) (l : List Int) (w : World) (hi : Its w w.heap.size v l) : Calls Tryd.prog 37 #[v] w fun e w' => e = .returned (.bool (risB l)) ∧ ∃ n, w' = w.drewN n := by
  rcases hi.form with ⟨rfl, ao, cap, rfl, -⟩ | ⟨hpos, b, off, cap, rfl, hcap, hm, hb, hc⟩
  · rw [risB_f (fun h => by have := h.1; simp at this)]
    go_enter Tryd.func37, Tryd.ntmps37
    go_wp2
    go_ret
    exact ⟨rfl, 0, rfl⟩
  · obtain ⟨n, hn⟩ : ∃ n, n = l.length := ⟨_, rfl⟩
    rw [← hn] at hpos hcap hm hc ⊢
    have HC := Lib.hid hc
    clear hc
    have HN := Lib.hid hn
    clear hn
    by_cases h64 : 64 < n
    · rw [risB_f (fun h => by have := h.2.1; have := HN.out; omega)]
      go_enter Tryd.func37, Tryd.ntmps37
      go_wp2
      go_ret
      exact ⟨rfl, 0, rfl⟩
    · go_enter Tryd.func37, Tryd.ntmps37
      go_wp2
      go_loopw [3] (fun i wr => ∃ k : Nat, 1 ≤ k ∧ k ≤ n ∧ i = .int .i64 (k : Int) ∧ Hid (∀ j, j + 1 < k → l.getD j 0 < l.getD (j + 1) 0) ∧ Hid (∃ d, wr = w.drewN d)) (fun i _ => n - (intOf i).toNat)
      case atStart => exact ⟨1, by omega, by omega, rfl, fun j hj => absurd hj (by omega), 0, rfl⟩
      case round =>
        obtain ⟨k, hk1, hk, rfl, HK, HW⟩ := hrel
        obtain ⟨d, rfl⟩ := HW.out
        by_cases hlt : k < n
        · obtain ⟨m, rfl⟩ : ∃ m, k = m + 1 := ⟨k - 1, by omega⟩
          have e1 := HC.out m (by omega)
          have e2 := HC.out (m + 1) hlt
          obtain ⟨x, hx⟩ : ∃ x, x = l.getD m 0 := ⟨_, rfl⟩
          obtain ⟨y, hy⟩ : ∃ y, y = l.getD (m + 1) 0 := ⟨_, rfl⟩
          rw [← hx] at e1
          rw [← hy] at e2
          have HX := Lib.hid hx
          have HY := Lib.hid hy
          have hki : ((m + 1 : Nat) : Int) < (n : Int) := by omega
          have hk0 : 0 ≤ (m : Int) ∧ (m : Int) < (n : Int) := by omega
          have hs1 : ((m + 1 : Nat) : Int) - 1 = (m : Int) := by omega
          clear hx hy
          by_cases hxy : x < y
          · have HK2 : Hid (∀ j, j + 1 < m + 1 + 1 → l.getD j 0 < l.getD (j + 1) 0) := fun j hj => by
              rcases Nat.lt_or_ge (j + 1) (m + 1) with h | h
              · exact HK.out j h
              · obtain rfl : j = m := by omega
                rw [← HX.out, ← HY.out]; exact hxy
            go_wp2
            go_quiet (fail)
            go_wp2
            go_roundw
            case rel => exact ⟨m + 1 + 1, by omega, by omega, by go_num, HK2, _, rfl⟩
            case measure => simp [intOf]; omega
          · have HF : Hid (risB l = false) := risB_f (fun h => by
              have := h.2.2 m (by have := HN.out; omega)
              rw [← HX.out, ← HY.out] at this; omega)
            go_wp2
            go_quiet (fail)
            go_wp2
            go_ret
            rw [HF.out]
            exact ⟨rfl, _, World.drewN_drewN _ _ _⟩
        · have HF : Hid (risB l = true) := risB_t ⟨by have := HN.out; omega, by have := HN.out; omega, fun j hj => HK.out j (by have := HN.out; omega)⟩
          go_wp2
          go_ret
          rw [HF.out]
          exact ⟨rfl, _, rfl⟩

end Go.Proofs.YtghgnalbahneoaaDoor
