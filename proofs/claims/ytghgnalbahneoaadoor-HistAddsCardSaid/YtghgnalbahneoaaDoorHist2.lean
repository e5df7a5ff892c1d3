/- Histograms: a value's place, on both sides. -/
import Derived.Test.YtghgnalbahneoaaDoorHist1
namespace Go.Proofs.YtghgnalbahneoaaDoor
open Go.RowKit

/-- how many bounds are not above -/
def bucketF (l : List Int) (x : Int) : Nat := (l.filter fun b => decide (b ≤ x)).length
theorem bucketF_le (l : List Int) (x : Int) : bucketF l x ≤ l.length := List.length_filter_le _ _
theorem bucketF_snoc (l : List Int) (x : Int) (k : Nat) (h : k < l.length) : bucketF (l.take (k + 1)) x = bucketF (l.take k) x + if l.getD k 0 ≤ x then 1 else 0 := by
  unfold bucketF
  rw [List.take_succ_eq_append_getElem h, List.filter_append, List.length_append]
  have e : l.getD k 0 = l[k] := by simp [List.getD, h]
  rw [e]
  by_cases hx : l[k] ≤ x <;> simp [hx]

set_option maxRecDepth 100000 in
set_option maxHeartbeats 1000000 in
theorem rbucket_any (v : Value) (l : List Int) (x : Int) (w : World) (hi : Its w w.heap.size v l) : Calls Tryd.prog 26 #[v, .int .i64 x] w fun e w' => e = .returned (.int .i64 (bucketF l x : Nat)) ∧ w = w' := by
  rcases hi.form with ⟨rfl, ao, cap, rfl, -⟩ | ⟨hpos, b, off, cap, rfl, hcap, hm, hb, hc⟩
  · have hF : bucketF [] x = 0 := rfl
    rw [hF]
    clear hF
    go_enter Tryd.func26, Tryd.ntmps26
    go_wp2
    go_loop [5, 6] (fun k i => k = .int .i64 0 ∧ i = .int .i64 0) (fun _ _ => 0)
    case atStart => exact ⟨rfl, rfl⟩
    case round =>
      obtain ⟨rfl, rfl⟩ := hrel
      go_wp2
      go_ret
      exact ⟨rfl, rfl⟩
  · obtain ⟨n, hn⟩ : ∃ n, n = l.length := ⟨_, rfl⟩
    rw [← hn] at hpos hcap hm hc ⊢
    have HC := Lib.hid hc
    have HN := Lib.hid hn
    clear hc hn
    go_enter Tryd.func26, Tryd.ntmps26
    go_wp2
    go_loop [5, 6] (fun c i => ∃ k m : Nat, k ≤ n ∧ m ≤ k ∧ i = .int .i64 (k : Int) ∧ c = .int .i64 (m : Int) ∧ Hid (m = bucketF (l.take k) x)) (fun _ i => n - (intOf i).toNat)
    case atStart => exact ⟨0, 0, Nat.zero_le _, Nat.zero_le _, rfl, rfl, rfl⟩
    case round =>
      obtain ⟨k, m, hk, hmk, rfl, rfl, HM⟩ := hrel
      by_cases hlt : k < n
      · have e1 := HC.out k hlt
        have hsn := bucketF_snoc l x k (by have := HN.out; omega)
        obtain ⟨y, hy⟩ : ∃ y, y = l.getD k 0 := ⟨_, rfl⟩
        rw [← hy] at e1 hsn
        have HS := Lib.hid hsn
        clear hy hsn
        by_cases hyx : y ≤ x
        · have HM2 : Hid (m + 1 = bucketF (l.take (k + 1)) x) := by show _ = _; rw [HS.out, if_pos hyx, ← HM.out]
          go_wp2
          go_round
          case rel => exact ⟨k + 1, m + 1, by omega, by omega, by go_num, by go_num, HM2⟩
          case measure => simp [intOf]; omega
        · have HM2 : Hid (m = bucketF (l.take (k + 1)) x) := by show _ = _; rw [HS.out, if_neg hyx, ← HM.out]; rfl
          go_wp2
          go_round
          case rel => exact ⟨k + 1, m, by omega, by omega, by go_num, rfl, HM2⟩
          case measure => simp [intOf]; omega
      · have HF : Hid (m = bucketF l x) := by show _ = _; rw [HM.out, List.take_of_length_le (by have := HN.out; omega)]
        go_wp2
        go_ret
        rw [← HF.out]
        exact ⟨rfl, rfl⟩

/-- no bound below the one ahead -/
def Srt (l : List Int) : Prop := ∀ i, i + 1 < l.length → l.getD i 0 ≤ l.getD (i + 1) 0
noncomputable def srtB (l : List Int) : Bool := @decide (Srt l) (Classical.propDecidable _)
theorem srtB_t {l : List Int} (h : Srt l) : srtB l = true := @decide_eq_true _ (Classical.propDecidable _) h
theorem srtB_f {l : List Int} (h : ¬ Srt l) : srtB l = false := @decide_eq_false _ (Classical.propDecidable _) h
theorem srtB_of {l : List Int} (h : srtB l = true) : Srt l := (@decide_eq_true_iff _ (Classical.propDecidable _)).1 h
theorem nan_any (x : Int) (w : World) : Calls Tryd.prog 78 #[.int .i64 x] w fun e w' => e = .returned (.bool false) ∧ w' = w := by
  go_enter Tryd.func78, Tryd.ntmps78
  go_wp2
  go_ret
  exact ⟨rfl, rfl⟩
theorem less_any (x y : Int) (w : World) : Calls Tryd.prog 70 #[.int .i64 x, .int .i64 y] w fun e w' => e = .returned (.bool (decide (x < y))) ∧ w' = w := by
  have h1 : ∀ W, _ := fun W => nan_any x W
  go_enter Tryd.func70, Tryd.ntmps70
  go_wp2_with (fail)
  refine (h1 _).mono ?_
  rintro e w1 ⟨rfl, rfl⟩
  go_wp2
  go_ret
  exact ⟨rfl, rfl⟩

set_option maxRecDepth 100000 in
set_option maxHeartbeats 1000000 in
theorem sorted_any (v : Value) (l : List Int) (w : World) (hi : Its w w.heap.size v l) : Calls Tryd.prog 54 #[v] w fun e w' => e = .returned (.bool (srtB l)) ∧ ∃ n, w' = w.drewN n := by
  rcases hi.form with ⟨rfl, ao, cap, rfl, -⟩ | ⟨hpos, b, off, cap, rfl, hcap, hm, hb, hc⟩
  · rw [srtB_t (fun i h => by simp at h)]
    go_enter Tryd.func54, Tryd.ntmps54
    go_wp2
    go_loop [3] (fun i => i = .int .i64 (-1)) (fun _ => 0)
    case atStart => rfl
    case round =>
      subst hrel
      go_wp2
      go_ret
      exact ⟨rfl, 0, rfl⟩
  · obtain ⟨n, hn⟩ : ∃ n, n = l.length := ⟨_, rfl⟩
    rw [← hn] at hpos hcap hm hc ⊢
    have HC := Lib.hid hc
    have HN := Lib.hid hn
    clear hc hn
    go_enter Tryd.func54, Tryd.ntmps54
    go_wp2
    go_loopw [3] (fun i wr => ∃ k : Nat, k < n ∧ i = .int .i64 (k : Int) ∧ Hid (∀ j, k ≤ j → j + 1 < n → l.getD j 0 ≤ l.getD (j + 1) 0) ∧ Hid (∃ d, wr = w.drewN d)) (fun i _ => (intOf i).toNat)
    case atStart => exact ⟨n - 1, by omega, by go_num, fun j h1 h2 => absurd h2 (by omega), 0, rfl⟩
    case round =>
      obtain ⟨k, hk, rfl, HK, HW⟩ := hrel
      obtain ⟨d, rfl⟩ := HW.out
      by_cases hk0 : 0 < k
      · obtain ⟨m, rfl⟩ : ∃ m, k = m + 1 := ⟨k - 1, by omega⟩
        have e1 : (w.drewN d).cell? ⟨b, off + m, none⟩ = _ := HC.out m (by omega)
        have e2 : (w.drewN d).cell? ⟨b, off + (m + 1), none⟩ = _ := HC.out (m + 1) hk
        obtain ⟨W0, hW0⟩ : ∃ W0, W0 = w.drewN d := ⟨_, rfl⟩
        rw [← hW0] at e1 e2 ⊢
        have HW0 := Lib.hid hW0
        clear HW hW0
        obtain ⟨x, hx⟩ : ∃ x, x = l.getD m 0 := ⟨_, rfl⟩
        obtain ⟨y, hy⟩ : ∃ y, y = l.getD (m + 1) 0 := ⟨_, rfl⟩
        rw [← hx] at e1
        rw [← hy] at e2
        have HX := Lib.hid hx
        have HY := Lib.hid hy
        have hki : 0 < ((m + 1 : Nat) : Int) := by omega
        have hkn : 0 ≤ ((m + 1 : Nat) : Int) ∧ ((m + 1 : Nat) : Int) < (n : Int) := by omega
        have hmi : 0 ≤ (m : Int) ∧ (m : Int) < (n : Int) := by omega
        have hs1 : ((m + 1 : Nat) : Int) - 1 = (m : Int) := by omega
        clear hx hy
        by_cases hyx : y < x
        · have HF : Hid (srtB l = false) := srtB_f (fun h => by
            have := h m (by have := HN.out; omega)
            rw [← HX.out, ← HY.out] at this; omega)
          have cl : ∀ W, _ := fun W => less_any y x W
          rw [decide_eq_true hyx] at cl
          go_wp2
          go_quiet ((go_at_call 70; exact Calls.quiet_of_same (cl _)))
          go_wp2
          go_ret
          rw [HF.out]
          exact ⟨rfl, _, by rw [HW0.out, World.drewN_drewN]⟩
        · have HK2 : Hid (∀ j, m ≤ j → j + 1 < n → l.getD j 0 ≤ l.getD (j + 1) 0) := fun j h1 h2 => by
            rcases Nat.lt_or_ge m j with h | h
            · exact HK.out j (by omega) h2
            · obtain rfl : j = m := by omega
              rw [← HX.out, ← HY.out]; omega
          have cl : ∀ W, _ := fun W => less_any y x W
          rw [decide_eq_false hyx] at cl
          go_wp2
          go_quiet ((go_at_call 70; exact Calls.quiet_of_same (cl _)))
          go_wp2
          go_roundw
          case rel => exact ⟨m, by omega, rfl, HK2, _, by rw [HW0.out, World.drewN_drewN]⟩
          case measure => simp [intOf]
      · obtain rfl : k = 0 := by omega
        have HF : Hid (srtB l = true) := srtB_t (fun j hj => HK.out j (Nat.zero_le _) (by have := HN.out; omega))
        go_wp2
        go_ret
        rw [HF.out]
        exact ⟨rfl, _, rfl⟩

end Go.Proofs.YtghgnalbahneoaaDoor
