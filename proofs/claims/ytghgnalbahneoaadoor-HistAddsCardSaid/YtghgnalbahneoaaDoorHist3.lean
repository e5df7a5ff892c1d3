/- Histograms: sort.Search, hist.Bucket. -/
import Derived.Test.YtghgnalbahneoaaDoorHist2
namespace Go.Proofs.YtghgnalbahneoaaDoor
open Go.RowKit

theorem Srt.le {l : List Int} (h : Srt l) {i j : Nat} (hij : i ≤ j) (hj : j < l.length) : l.getD i 0 ≤ l.getD j 0 := by
  induction j with
  | zero => obtain rfl : i = 0 := by omega
            exact Int.le_refl _
  | succ j ih =>
    rcases Nat.lt_or_ge i (j + 1) with h1 | h1
    · exact Int.le_trans (ih (by omega) (by omega)) (h j hj)
    · obtain rfl : i = j + 1 := by omega
      exact Int.le_refl _
theorem bucketF_at {l : List Int} {x : Int} {k : Nat} (h : Srt l) (hk : k ≤ l.length) (h1 : k = 0 ∨ l.getD (k - 1) 0 ≤ x) (h2 : k = l.length ∨ x < l.getD k 0) : bucketF l x = k := by
  have main : ∀ m, m ≤ l.length → bucketF (l.take m) x = min m k := by
    intro m
    induction m with
    | zero => intro _; simp [bucketF]
    | succ m ih =>
      intro hm
      rw [bucketF_snoc l x m (by omega), ih (by omega)]
      rcases Nat.lt_or_ge m k with h3 | h3
      · have : l.getD m 0 ≤ x := by
          rcases h1 with h1 | h1
          · omega
          · exact Int.le_trans (h.le (by omega) (by omega)) h1
        rw [if_pos this]; omega
      · have : ¬ l.getD m 0 ≤ x := by
          rcases h2 with h2 | h2
          · omega
          · have := h.le h3 (by omega); omega
        rw [if_neg this]; omega
  have := main l.length (Nat.le_refl _)
  rw [List.take_length] at this
  rw [this]; omega

/-- what Bucket's closure reads -/
structure BkAt (W : World) (bb bx : Nat) (b off cap n : Nat) (l : List Int) (x : Int) : Prop where
  hb : W.heap[bb]? = some (.cells #[.slice (some ⟨b, off, none⟩) n cap] 22 (0, 0))
  hx : W.heap[bx]? = some (.cells #[.int .i64 x] 2 (0, 0))
  hc : ∀ i, i < n → W.cell? ⟨b, off + i, none⟩ = some (.int .i64 (l.getD i 0))
theorem BkAt.drew {W : World} {bb bx b off cap n : Nat} {l : List Int} {x : Int} (h : BkAt W bb bx b off cap n l x) (d : Nat) : BkAt (W.drewN d) bb bx b off cap n l x := ⟨h.hb, h.hx, h.hc⟩
set_option maxRecDepth 100000 in
theorem bk1_any {w : World} {bb bx b off cap n : Nat} {l : List Int} {x : Int} (h : BkAt w bb bx b off cap n l x) (k : Nat) (hk : k < n) (hn : n ≤ 140737488355328) :
    Calls Tryd.prog 56 #[.int .i64 (k : Int), .pointer (some ⟨bb, 0, none⟩), .pointer (some ⟨bx, 0, none⟩)] w fun e w' => e = .returned (.bool (decide (x < l.getD k 0))) ∧ ∃ d, w' = w.drewN d := by
  have e1 : w.cell? ⟨bb, 0, none⟩ = some (.slice (some ⟨b, off, none⟩) n cap) := cell_of_row _ _ 0 _ _ _ h.hb
  have e2 : w.cell? ⟨bx, 0, none⟩ = some (.int .i64 x) := cell_of_row _ _ 0 _ _ _ h.hx
  have e3 := h.hc k hk
  obtain ⟨y, hy⟩ : ∃ y, y = l.getD k 0 := ⟨_, rfl⟩
  rw [← hy] at e3 ⊢
  have hki : 0 ≤ (k : Int) ∧ (k : Int) < (n : Int) := by omega
  clear hy h
  go_enter Tryd.func56, Tryd.ntmps56
  go_wp2
  go_quiet (fail)
  go_wp2
  go_ret
  exact ⟨rfl, _, rfl⟩

set_option maxRecDepth 100000 in
set_option maxHeartbeats 1000000 in
theorem search_any {w : World} {bb bx b off cap n : Nat} {l : List Int} {x : Int} (h : BkAt w bb bx b off cap n l x) (hn : n ≤ 140737488355328) :
    Calls Tryd.prog 55 #[.int .i64 (n : Int), .func (.func 56) #[] #[.pointer (some ⟨bb, 0, none⟩), .pointer (some ⟨bx, 0, none⟩)]] w fun e w' =>
      (∃ k : Nat, e = .returned (.int .i64 (k : Int)) ∧ k ≤ n ∧ (k = 0 ∨ l.getD (k - 1) 0 ≤ x) ∧ (k = n ∨ x < l.getD k 0)) ∧ ∃ d, w' = w.drewN d := by
  have H := Lib.hid h
  clear h
  go_enter Tryd.func55, Tryd.ntmps55
  go_wp2
  go_loopw [5, 6] (fun iv jv wr => ∃ i j : Nat, i ≤ j ∧ j ≤ n ∧ iv = .int .i64 (i : Int) ∧ jv = .int .i64 (j : Int) ∧ Hid (i = 0 ∨ l.getD (i - 1) 0 ≤ x) ∧ Hid (j = n ∨ x < l.getD j 0) ∧ Hid (∃ d, wr = w.drewN d)) (fun iv jv _ => (intOf jv - intOf iv).toNat)
  case atStart => exact ⟨0, n, Nat.zero_le _, Nat.le_refl _, rfl, rfl, .inl rfl, .inl rfl, 0, rfl⟩
  case round =>
    obtain ⟨i, j, hij, hjn, rfl, rfl, H1, H2, HW⟩ := hrel
    obtain ⟨d, rfl⟩ := HW.out
    by_cases hlt : i < j
    · obtain ⟨m, hm⟩ : ∃ m, m = (i + j) / 2 := ⟨_, rfl⟩
      have hh : ((i : Int) + (j : Int)) / 2 = (m : Int) := by omega
      have hm1 : i ≤ m ∧ m < j := by omega
      obtain ⟨hm1, hm2⟩ := hm1
      have cc := bk1_any (H.out.drew d) m (by omega) hn
      clear hm
      by_cases hx : x < l.getD m 0
      · rw [decide_eq_true hx] at cc
        have H2' : Hid (m = n ∨ x < l.getD m 0) := .inr hx
        clear hx
        go_wp2_with (fail)
        refine cc.mono ?_
        rintro e w1 ⟨rfl, d2, rfl⟩
        clear cc
        go_wp2
        go_roundw
        case rel => exact ⟨i, m, by omega, by omega, rfl, rfl, H1, H2', _, rfl⟩
        case measure => simp [intOf]; omega
      · rw [decide_eq_false hx] at cc
        have H1' : Hid (m + 1 = 0 ∨ l.getD (m + 1 - 1) 0 ≤ x) := .inr (by rw [Nat.add_sub_cancel]; omega)
        clear hx
        go_wp2_with (fail)
        refine cc.mono ?_
        rintro e w1 ⟨rfl, d2, rfl⟩
        clear cc
        go_wp2
        go_roundw
        case rel => exact ⟨m + 1, j, by omega, by omega, by go_num, rfl, H1', H2, _, rfl⟩
        case measure => simp [intOf]; omega
    · obtain rfl : i = j := by omega
      go_wp2
      go_ret
      exact ⟨⟨i, rfl, hjn, H1.out, H2.out⟩, _, rfl⟩

theorem search_zero (w : World) (c : Array Value) : Calls Tryd.prog 55 #[.int .i64 0, .func (.func 56) #[] c] w fun e w' => e = .returned (.int .i64 0) ∧ w' = w := by
  go_enter Tryd.func55, Tryd.ntmps55
  go_wp2
  go_loop [5, 6] (fun i j => i = .int .i64 0 ∧ j = .int .i64 0) (fun _ _ => 0)
  case atStart => exact ⟨rfl, rfl⟩
  case round =>
    obtain ⟨rfl, rfl⟩ := hrel
    go_wp2
    go_ret
    exact ⟨rfl, rfl⟩

set_option maxRecDepth 100000 in
set_option maxHeartbeats 2000000 in
theorem bucket_any (v : Value) (l : List Int) (x : Int) (w : World) (hi : Its w w.heap.size v l) (hl : l.length ≤ 140737488355328) : Calls Tryd.prog 25 #[v, .int .i64 x] w fun e w' => e = .returned (.int .i64 (bucketF l x : Nat)) ∧ Below w.heap.size w w' := by
  have k0 : ((w.alloc (.cells #[v] 22)).alloc (.cells #[.int .i64 x] 2)).heap[w.heap.size]? = some (.cells #[v] 22 (0, 0)) := (Below.heap_alloc _ _ _ (by simp)).trans (heap_alloc_new _ _)
  have k1 : ((w.alloc (.cells #[v] 22)).alloc (.cells #[.int .i64 x] 2)).heap[w.heap.size + 1]? = some (.cells #[.int .i64 x] 2 (0, 0)) := by
    have := heap_alloc_new (w.alloc (.cells #[v] 22)) (.cells #[.int .i64 x] 2)
    simpa using this
  have L0 : Hid (Below w.heap.size w ((w.alloc (.cells #[v] 22)).alloc (.cells #[.int .i64 x] 2))) := bel_alloc (bel_alloc (Below.refl _ _) (Nat.le_refl _)) (by simp)
  have HI := Lib.hid (hi.below L0.out L0.out.size)
  have K0 := Lib.hid k0
  have K1 := Lib.hid k1
  have cs : ∀ W, Its W W.heap.size v l → _ := fun W h => sorted_any v l W h
  clear k0 k1
  cases hs : srtB l
  · rw [hs] at cs
    rcases hi.form with ⟨rfl, ao, cap, rfl, -⟩ | ⟨hpos, b, off, cap, rfl, hcap, hm, hb, hc⟩
    · rw [srtB_t (fun i h => by simp at h)] at hs; cases hs
    · obtain ⟨n, hn⟩ : ∃ n, n = l.length := ⟨_, rfl⟩
      rw [← hn] at hpos hcap hm hc hl cs HI K0 K1 L0 ⊢
      have HC : Hid (∀ i, i < n → ((w.alloc (.cells #[.slice (some ⟨b, off, none⟩) n cap] 22)).alloc (.cells #[.int .i64 x] 2)).cell? ⟨b, off + i, none⟩ = some (.int .i64 (l.getD i 0))) := fun i h => (L0.out.cell (p := ⟨b, off + i, none⟩) hb).trans (hc i h)
      have HN := Lib.hid hn
      clear hc hn hs
      go_enter Tryd.func25, Tryd.ntmps25
      go_wp2_with (fail)
      refine (cs _ HI.out).mono ?_
      rintro e w1 ⟨rfl, d0, rfl⟩
      clear cs HI
      generalize (w.alloc (.cells #[.slice (some ⟨b, off, none⟩) n cap] 22)).alloc (.cells #[.int .i64 x] 2) = W0 at *
      have r0 : W0.cell? ⟨w.heap.size, 0, none⟩ = some (.slice (some ⟨b, off, none⟩) n cap) := cell_of_row _ _ 0 _ _ _ K0.out
      have r1 : W0.cell? ⟨w.heap.size + 1, 0, none⟩ = some (.int .i64 x) := cell_of_row _ _ 0 _ _ _ K1.out
      go_wp2
      go_loop [5, 13] (fun c i => ∃ k m : Nat, k ≤ n ∧ m ≤ k ∧ i = .int .i64 (k : Int) ∧ c = .int .i64 (m : Int) ∧ Hid (m = bucketF (l.take k) x)) (fun _ i => n - (intOf i).toNat)
      case atStart => exact ⟨0, 0, Nat.zero_le _, Nat.zero_le _, rfl, rfl, rfl⟩
      case round =>
        obtain ⟨k, m, hk, hmk, rfl, rfl, HM⟩ := hrel
        by_cases hlt : k < n
        · have e1 := HC.out k hlt
          have hsn := bucketF_snoc l x k (by have := HN.out; omega)
          obtain ⟨y, hy⟩ : ∃ y, y = l.getD k 0 := ⟨_, rfl⟩
          rw [← hy] at e1 hsn
          have HS := Lib.hid hsn
          clear hy hsn
          by_cases hyx : y ≤ x
          · have HM2 : Hid (m + 1 = bucketF (l.take (k + 1)) x) := by show _ = _; rw [HS.out, if_pos hyx, ← HM.out]
            go_wp2
            go_round
            case rel => exact ⟨k + 1, m + 1, by omega, by omega, by go_num, by go_num, HM2⟩
            case measure => simp [intOf]; omega
          · have HM2 : Hid (m = bucketF (l.take (k + 1)) x) := by show _ = _; rw [HS.out, if_neg hyx, ← HM.out]; rfl
            go_wp2
            go_round
            case rel => exact ⟨k + 1, m, by omega, by omega, by go_num, rfl, HM2⟩
            case measure => simp [intOf]; omega
        · have HF : Hid (m = bucketF l x) := by show _ = _; rw [HM.out, List.take_of_length_le (by have := HN.out; omega)]
          go_wp2
          go_ret
          rw [← HF.out]
          exact ⟨rfl, bel_drew L0.out⟩
  · have HS := srtB_of hs
    rw [hs] at cs
    rcases hi.form with ⟨rfl, ao, cap, rfl, -⟩ | ⟨hpos, b, off, cap, rfl, hcap, hm, hb, hc⟩
    · have hF : bucketF [] x = 0 := rfl
      rw [hF]
      clear hF hs HS
      go_enter Tryd.func25, Tryd.ntmps25
      go_wp2_with (fail)
      refine (cs _ HI.out).mono ?_
      rintro e w1 ⟨rfl, d0, rfl⟩
      clear cs HI
      generalize (w.alloc (.cells #[.slice ao ([] : List Int).length cap] 22)).alloc (.cells #[.int .i64 x] 2) = W0 at *
      have r0 : W0.cell? ⟨w.heap.size, 0, none⟩ = some (.slice ao 0 cap) := cell_of_row _ _ 0 _ _ _ K0.out
      go_wp2_with (fail)
      refine (search_zero _ _).mono ?_
      rintro e w1 ⟨rfl, rfl⟩
      go_wp2
      go_ret
      exact ⟨rfl, bel_drew L0.out⟩
    · obtain ⟨n, hn⟩ : ∃ n, n = l.length := ⟨_, rfl⟩
      rw [← hn] at hpos hcap hm hc hl cs HI K0 K1 L0 ⊢
      have HC : Hid (∀ i, i < n → ((w.alloc (.cells #[.slice (some ⟨b, off, none⟩) n cap] 22)).alloc (.cells #[.int .i64 x] 2)).cell? ⟨b, off + i, none⟩ = some (.int .i64 (l.getD i 0))) := fun i h => (L0.out.cell (p := ⟨b, off + i, none⟩) hb).trans (hc i h)
      have HAt : Hid (BkAt ((w.alloc (.cells #[.slice (some ⟨b, off, none⟩) n cap] 22)).alloc (.cells #[.int .i64 x] 2)) w.heap.size (w.heap.size + 1) b off cap n l x) := ⟨K0.out, K1.out, HC.out⟩
      have HN := Lib.hid hn
      have HSS := Lib.hid HS
      clear hc hn hs HS
      go_enter Tryd.func25, Tryd.ntmps25
      go_wp2_with (fail)
      refine (cs _ HI.out).mono ?_
      rintro e w1 ⟨rfl, d0, rfl⟩
      clear cs HI
      generalize (w.alloc (.cells #[.slice (some ⟨b, off, none⟩) n cap] 22)).alloc (.cells #[.int .i64 x] 2) = W0 at *
      have r0 : W0.cell? ⟨w.heap.size, 0, none⟩ = some (.slice (some ⟨b, off, none⟩) n cap) := cell_of_row _ _ 0 _ _ _ K0.out
      have cq := search_any (HAt.out.drew d0) hl
      go_wp2_with (fail)
      refine cq.mono ?_
      rintro e w1 ⟨⟨k, rfl, h1, h2, h3⟩, d2, rfl⟩
      have HF : Hid (bucketF l x = k) := bucketF_at HSS.out (by have := HN.out; omega) h2 (by have := HN.out; rw [← this]; exact h3)
      clear cq h2 h3
      go_wp2
      go_ret
      rw [HF.out]
      exact ⟨rfl, bel_drew L0.out⟩

end Go.Proofs.YtghgnalbahneoaaDoor
