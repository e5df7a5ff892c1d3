/- Histograms: slices.Contains, ContainsFunc, Equal; Fit on both sides (by program: wip/tools/gen_hist4.py). -/
import Derived.Test.YtghgnalbahneoaaDoorHist3
namespace Go.Proofs.YtghgnalbahneoaaDoor
open Go.RowKit

/-- a count that may be -/
def cntB (n : Int) : Bool := decide (0 ≤ n ∧ n ≤ 1099511627776)
theorem cntB_t {n : Int} (h1 : 0 ≤ n) (h2 : n ≤ 1099511627776) : cntB n = true := decide_eq_true ⟨h1, h2⟩
theorem cntB_f {n : Int} (h : ¬ (0 ≤ n ∧ n ≤ 1099511627776)) : cntB n = false := decide_eq_false h
theorem cntB_of {n : Int} (h : cntB n = true) : 0 ≤ n ∧ n ≤ 1099511627776 := of_decide_eq_true h
theorem counted_any (n : Int) (w : World) : Calls Tryd.prog 51 #[.int .i64 n] w fun e w' => e = .returned (.bool (cntB n)) ∧ w = w' := by
  by_cases h1 : 0 ≤ n
  · by_cases h2 : n ≤ 1099511627776
    · rw [cntB_t h1 h2]
      go_enter Tryd.func51, Tryd.ntmps51
      go_wp2
      go_ret
      exact ⟨rfl, rfl⟩
    · rw [cntB_f (by omega)]
      go_enter Tryd.func51, Tryd.ntmps51
      go_wp2
      go_ret
      exact ⟨rfl, rfl⟩
  · rw [cntB_f (by omega)]
    go_enter Tryd.func51, Tryd.ntmps51
    go_wp2
    go_ret
    exact ⟨rfl, rfl⟩
theorem fit1_any (n : Int) (w : World) : Calls Tryd.prog 50 #[.int .i64 n] w fun e w' => e = .returned (.bool (!cntB n)) ∧ Below w.heap.size w w' := by
  have c : ∀ W, _ := fun W => counted_any n W
  generalize cntB n = b at *
  go_enter Tryd.func50, Tryd.ntmps50
  go_wp2_with (fail)
  refine (c _).mono ?_
  rintro e w1 ⟨rfl, rfl⟩
  cases b
  · go_wp2
    go_ret
    exact ⟨rfl, Below.refl _ _⟩
  · go_wp2
    go_ret
    exact ⟨rfl, Below.refl _ _⟩
theorem any_take_succ (l : List Int) (p : Int → Bool) (k : Nat) (h : k < l.length) : (l.take (k + 1)).any p = ((l.take k).any p || p (l.getD k 0)) := by
  rw [List.take_succ_eq_append_getElem h, List.any_append]
  have e : l.getD k 0 = l[k] := by simp [List.getD, h]
  rw [e]; simp

set_option maxRecDepth 100000 in
set_option maxHeartbeats 1000000 in
theorem index_fit  (v : Value) (l : List Int) (w : World) (hi : Its w w.heap.size v l) (p : Int → Bool) (hp : ∀ x W, Below w.heap.size w W → Calls Tryd.prog 50 #[.int .i64 x] W fun e w' => e = .returned (.bool (p x)) ∧ Below W.heap.size W w') :
    Calls Tryd.prog 69 #[v, (.func (.func 50) #[] #[])] w fun e w' => (∃ i : Int, e = .returned (.int .i64 i) ∧ decide (0 ≤ i) = l.any p) ∧ Below w.heap.size w w' := by
  rcases hi.form with ⟨rfl, ao, cap, rfl, -⟩ | ⟨hpos, b, off, cap, rfl, hcap, hm, hb, hc⟩
  · go_enter Tryd.func69, Tryd.ntmps69
    go_wp2
    go_loop [8] (fun i => i = .int .i64 0) (fun _ => 0)
    case atStart => rfl
    case round =>
      subst hrel
      go_wp2
      go_ret
      exact ⟨⟨-1, rfl, by simp⟩, Below.refl _ _⟩
  · obtain ⟨n, hn⟩ : ∃ n, n = l.length := ⟨_, rfl⟩
    rw [← hn] at hpos hcap hm hc ⊢
    have HC := Lib.hid hc
    have HN := Lib.hid hn
    have HP := Lib.hid hp
    clear hc hn hp
    go_enter Tryd.func69, Tryd.ntmps69
    go_wp2
    go_loopw [8] (fun i wr => ∃ k : Nat, k ≤ n ∧ i = .int .i64 (k : Int) ∧ Hid ((l.take k).any p = false) ∧ Hid (Below w.heap.size w wr)) (fun i _ => n - (intOf i).toNat)
    case atStart => exact ⟨0, Nat.zero_le _, rfl, rfl, Below.refl _ _⟩
    case round =>
      obtain ⟨k, hk, rfl, HK, HB⟩ := hrel
      by_cases hlt : k < n
      · have e1 := (HB.out.cell (p := ⟨b, off + k, none⟩) hb).trans (HC.out k hlt)
        have hs := any_take_succ l p k (by have := HN.out; omega)
        obtain ⟨y, hy⟩ : ∃ y, y = l.getD k 0 := ⟨_, rfl⟩
        rw [← hy] at e1 hs
        rw [HK.out, Bool.false_or] at hs
        have HY := Lib.hid hy
        have HS := Lib.hid hs
        have cp := HP.out y wr HB.out
        have hki : 0 ≤ (k : Int) ∧ (k : Int) < (n : Int) := by omega
        clear hy hs
        cases hpy : p y
        · rw [hpy] at cp
          have HK2 : Hid ((l.take (k + 1)).any p = false) := by show _ = _; rw [HS.out, hpy]
          clear hpy
          go_wp2_with (fail)
          refine cp.mono ?_
          rintro e w1 ⟨rfl, hB⟩
          have HB2 := Lib.hid (HB.out.trans (hB.mono HB.out.size))
          clear hB cp
          go_wp2
          go_roundw
          case rel => exact ⟨k + 1, by omega, by go_num, HK2, HB2⟩
          case measure => simp [intOf]; omega
        · rw [hpy] at cp
          have HF : Hid (l.any p = true) := by
            show _ = _
            rw [List.any_eq_true]
            refine ⟨y, ?_, hpy⟩
            rw [HY.out]
            have hkl : k < l.length := by have := HN.out; omega
            rw [List.getD_eq_getElem?_getD, List.getElem?_eq_getElem hkl]
            exact List.getElem_mem hkl
          clear hpy
          go_wp2_with (fail)
          refine cp.mono ?_
          rintro e w1 ⟨rfl, hB⟩
          have HB2 := Lib.hid (HB.out.trans (hB.mono HB.out.size))
          clear hB cp
          go_wp2
          go_ret
          exact ⟨⟨k, rfl, by rw [HF.out]; exact decide_eq_true (by omega)⟩, HB2.out⟩
      · have HF : Hid (l.any p = false) := by show _ = _; have := HK.out; rw [List.take_of_length_le (by have := HN.out; omega)] at this; exact this
        go_wp2
        go_ret
        exact ⟨⟨-1, rfl, by rw [HF.out]; rfl⟩, HB.out⟩
theorem contains_fit  (v : Value) (l : List Int) (w : World) (hi : Its w w.heap.size v l) (p : Int → Bool) (hp : ∀ x W, Below w.heap.size w W → Calls Tryd.prog 50 #[.int .i64 x] W fun e w' => e = .returned (.bool (p x)) ∧ Below W.heap.size W w') :
    Calls Tryd.prog 49 #[v, (.func (.func 50) #[] #[])] w fun e w' => e = .returned (.bool (l.any p)) ∧ Below w.heap.size w w' := by
  have c := index_fit v l w hi p hp
  have hf := hi.slice
  obtain ⟨ao, cap, rfl, -⟩ := hf
  go_enter Tryd.func49, Tryd.ntmps49
  go_wp2_with (fail)
  refine c.mono ?_
  rintro e w1 ⟨⟨i, rfl, h2⟩, hB⟩
  have H2 := Lib.hid h2
  have HB := Lib.hid hB
  clear h2 hB c
  go_wp2
  go_ret
  exact ⟨by rw [← H2.out]; rfl, HB.out⟩

set_option maxRecDepth 100000 in
set_option maxHeartbeats 1000000 in
theorem index_coarse (bh : Nat) (v : Value) (l : List Int) (w : World) (hi : Its w w.heap.size v l) (p : Int → Bool) (hp : ∀ x W, Below w.heap.size w W → Calls Tryd.prog 59 #[.int .i64 x, .pointer (some ⟨bh, 0, none⟩)] W fun e w' => e = .returned (.bool (p x)) ∧ Below W.heap.size W w') :
    Calls Tryd.prog 69 #[v, (.func (.func 59) #[] #[.pointer (some ⟨bh, 0, none⟩)])] w fun e w' => (∃ i : Int, e = .returned (.int .i64 i) ∧ decide (0 ≤ i) = l.any p) ∧ Below w.heap.size w w' := by
  rcases hi.form with ⟨rfl, ao, cap, rfl, -⟩ | ⟨hpos, b, off, cap, rfl, hcap, hm, hb, hc⟩
  · go_enter Tryd.func69, Tryd.ntmps69
    go_wp2
    go_loop [8] (fun i => i = .int .i64 0) (fun _ => 0)
    case atStart => rfl
    case round =>
      subst hrel
      go_wp2
      go_ret
      exact ⟨⟨-1, rfl, by simp⟩, Below.refl _ _⟩
  · obtain ⟨n, hn⟩ : ∃ n, n = l.length := ⟨_, rfl⟩
    rw [← hn] at hpos hcap hm hc ⊢
    have HC := Lib.hid hc
    have HN := Lib.hid hn
    have HP := Lib.hid hp
    clear hc hn hp
    go_enter Tryd.func69, Tryd.ntmps69
    go_wp2
    go_loopw [8] (fun i wr => ∃ k : Nat, k ≤ n ∧ i = .int .i64 (k : Int) ∧ Hid ((l.take k).any p = false) ∧ Hid (Below w.heap.size w wr)) (fun i _ => n - (intOf i).toNat)
    case atStart => exact ⟨0, Nat.zero_le _, rfl, rfl, Below.refl _ _⟩
    case round =>
      obtain ⟨k, hk, rfl, HK, HB⟩ := hrel
      by_cases hlt : k < n
      · have e1 := (HB.out.cell (p := ⟨b, off + k, none⟩) hb).trans (HC.out k hlt)
        have hs := any_take_succ l p k (by have := HN.out; omega)
        obtain ⟨y, hy⟩ : ∃ y, y = l.getD k 0 := ⟨_, rfl⟩
        rw [← hy] at e1 hs
        rw [HK.out, Bool.false_or] at hs
        have HY := Lib.hid hy
        have HS := Lib.hid hs
        have cp := HP.out y wr HB.out
        have hki : 0 ≤ (k : Int) ∧ (k : Int) < (n : Int) := by omega
        clear hy hs
        cases hpy : p y
        · rw [hpy] at cp
          have HK2 : Hid ((l.take (k + 1)).any p = false) := by show _ = _; rw [HS.out, hpy]
          clear hpy
          go_wp2_with (fail)
          refine cp.mono ?_
          rintro e w1 ⟨rfl, hB⟩
          have HB2 := Lib.hid (HB.out.trans (hB.mono HB.out.size))
          clear hB cp
          go_wp2
          go_roundw
          case rel => exact ⟨k + 1, by omega, by go_num, HK2, HB2⟩
          case measure => simp [intOf]; omega
        · rw [hpy] at cp
          have HF : Hid (l.any p = true) := by
            show _ = _
            rw [List.any_eq_true]
            refine ⟨y, ?_, hpy⟩
            rw [HY.out]
            have hkl : k < l.length := by have := HN.out; omega
            rw [List.getD_eq_getElem?_getD, List.getElem?_eq_getElem hkl]
            exact List.getElem_mem hkl
          clear hpy
          go_wp2_with (fail)
          refine cp.mono ?_
          rintro e w1 ⟨rfl, hB⟩
          have HB2 := Lib.hid (HB.out.trans (hB.mono HB.out.size))
          clear hB cp
          go_wp2
          go_ret
          exact ⟨⟨k, rfl, by rw [HF.out]; exact decide_eq_true (by omega)⟩, HB2.out⟩
      · have HF : Hid (l.any p = false) := by show _ = _; have := HK.out; rw [List.take_of_length_le (by have := HN.out; omega)] at this; exact this
        go_wp2
        go_ret
        exact ⟨⟨-1, rfl, by rw [HF.out]; rfl⟩, HB.out⟩
theorem contains_coarse (bh : Nat) (v : Value) (l : List Int) (w : World) (hi : Its w w.heap.size v l) (p : Int → Bool) (hp : ∀ x W, Below w.heap.size w W → Calls Tryd.prog 59 #[.int .i64 x, .pointer (some ⟨bh, 0, none⟩)] W fun e w' => e = .returned (.bool (p x)) ∧ Below W.heap.size W w') :
    Calls Tryd.prog 49 #[v, (.func (.func 59) #[] #[.pointer (some ⟨bh, 0, none⟩)])] w fun e w' => e = .returned (.bool (l.any p)) ∧ Below w.heap.size w w' := by
  have c := index_coarse bh v l w hi p hp
  have hf := hi.slice
  obtain ⟨ao, cap, rfl, -⟩ := hf
  go_enter Tryd.func49, Tryd.ntmps49
  go_wp2_with (fail)
  refine c.mono ?_
  rintro e w1 ⟨⟨i, rfl, h2⟩, hB⟩
  have H2 := Lib.hid h2
  have HB := Lib.hid hB
  clear h2 hB c
  go_wp2
  go_ret
  exact ⟨by rw [← H2.out]; rfl, HB.out⟩


end Go.Proofs.YtghgnalbahneoaaDoor
