/- Cuts: the law CutsParts, walked. -/
import Derived.Test.YtenilbofncfbdaaCM
import Derived.Test.YtenilbofncfbdaaCN
set_option linter.unusedSimpArgs false
set_option linter.unusedVariables false
namespace Go.Proofs.Ytenilbofncfbdaa
open Go.RowKit

set_option maxRecDepth 100000 in
set_option maxHeartbeats 1000000 in
theorem few_any (W : World) (n : Int) (v : Value) (k : Int) (xs : Ipr) (hx : Lks W W.heap.size v xs) :
    Calls Try.prog 8 #[.int .i64 n, v, .int .i64 k] W fun e w' => e = .returned (.bool (decide (n ≤ k) && fitB n xs)) ∧ Below W.heap.size W w' := by
  have HC := Lib.hid (rfit_any W n v xs hx)
  obtain ⟨ao, ac, rfl, hac, hal⟩ := hx.slice
  obtain ⟨f, hf⟩ : ∃ f, f = fitB n xs := ⟨_, rfl⟩
  rw [← hf] at HC ⊢
  clear hf hx
  by_cases hnk : n ≤ k
  · rw [decide_eq_true hnk]
    go_enter Try.func8, Try.ntmps8
    go_wp2_with (fail)
    refine HC.out.mono ?_
    rintro e w' ⟨rfl, hb⟩
    have HB := Lib.hid hb
    clear hb
    go_wp2_with (fail)
    go_ret
    exact ⟨by simp, HB.out⟩
  · rw [decide_eq_false hnk]
    go_enter Try.func8, Try.ntmps8
    go_wp2_with (fail)
    go_ret
    exact ⟨by simp, Below.refl _ _⟩

set_option maxRecDepth 100000 in
set_option maxHeartbeats 2000000 in
theorem law_CutsParts (W : World) (n : Int) (v : Value) (a b : Int) (xs : Ipr) (hx : Lks W W.heap.size v xs) :
    Calls Try.prog 3 #[.int .i64 n, v, .int .i64 a, .int .i64 b] W fun e w' => e = .returned (.bool true) ∧ Below W.heap.size W w' := by
  have HC := Lib.hid (few_any W n v 10 xs hx)
  by_cases hf : n ≤ 10 ∧ FitX n xs
  · obtain ⟨hn10, hfx⟩ := hf
    rw [decide_eq_true hn10, fitB_true hfx] at HC
    obtain ⟨m, L, rfl, rfl, hfl, hm1, hm16⟩ := hfx.nodes
    have hL : L.length ≤ 1000 := Nat.le_trans (fit_len hfl hm16) (by decide)
    have hm10 : m ≤ 10 := by omega
    have HLI : Hid (∀ w, Below W.heap.size W w → Lis w w.heap.size v L) := fun w hw => hx.below hw hw.size
    have HF := Lib.hid hfl
    have HL := Lib.hid hL
    obtain ⟨wk, hwk⟩ : ∃ q, q = weakI L m := ⟨_, rfl⟩
    have HWK : Hid (∀ w, Below W.heap.size W w → Calls Try.prog 10 #[.int .i64 (m : Int), v] w fun e w' => e = .returned (.tuple #[.int .i64 (wk.1 : Int), .bool wk.2]) ∧ Below w.heap.size w w') := fun w hw => by rw [hwk]; exact weakest_any w v m L (HLI.out w hw) HF.out HL.out hm16
    have HRW : Hid (∀ w, Below W.heap.size W w → Calls Try.prog 11 #[.int .i64 (m : Int), v] w fun e w' => e = .returned (.tuple #[.int .i64 (wk.1 : Int), .bool wk.2]) ∧ Below w.heap.size w w') := fun w hw => by rw [hwk]; exact rweak_any w v m L (HLI.out w hw) HF.out HL.out hm10 hm1
    obtain ⟨t, ht⟩ : ∃ t, t = (mostI L m a b).2 := ⟨_, rfl⟩
    have HFL : Hid (∀ w, Below W.heap.size W w → Calls Try.prog 12 #[.int .i64 (m : Int), v, .int .i64 a, .int .i64 b] w fun e w' => e = .returned (.int .i64 (t : Int)) ∧ Below w.heap.size w w') := fun w hw => by rw [ht]; exact flow_any w v m L a b (HLI.out w hw) HF.out HL.out hm16
    have HRF : Hid (∀ w, Below W.heap.size W w → Calls Try.prog 13 #[.int .i64 (m : Int), v, .int .i64 a, .int .i64 b] w fun e w' => e = .returned (.int .i64 (t : Int)) ∧ Below w.heap.size w w') := fun w hw => by rw [ht]; exact rflow_any w v m L a b (HLI.out w hw) HF.out HL.out hm10
    obtain ⟨ct, hct⟩ : ∃ q, q = prI (cutI L m a b) := ⟨_, rfl⟩
    have HCU : Hid (∀ w, Below W.heap.size W w → Calls Try.prog 15 #[.int .i64 (m : Int), v, .int .i64 a, .int .i64 b] w fun e w' => (∃ v, e = .returned v ∧ OwnL w' w.heap.size v ct) ∧ Below w.heap.size w w') := fun w hw => by rw [hct]; exact cut_any w v m L a b (HLI.out w hw) HF.out HL.out hm16
    have HRC : Hid (∀ w, Below W.heap.size W w → Calls Try.prog 16 #[.int .i64 (m : Int), v, .int .i64 a, .int .i64 b] w fun e w' => (∃ v, e = .returned v ∧ OwnL w' w.heap.size v ct) ∧ Below w.heap.size w w') := fun w hw => by rw [hct]; exact rcut_any w v m L a b (HLI.out w hw) HF.out HL.out hm10
    clear hx hfx hfl hwk ht hct hL
    go_enter Try.func3, Try.ntmps3
    go_wp2_with (fail)
    refine HC.out.mono ?_
    rintro e W1 ⟨rfl, hb⟩
    have HB1 := Lib.hid hb
    clear hb
    go_wp2_with (fail)
    refine (HWK.out W1 HB1.out).mono ?_
    rintro e W2 ⟨rfl, hb⟩
    have HB2 := Lib.hid (HB1.out.trans (hb.mono HB1.out.size))
    clear hb
    go_wp2_with (fail)
    refine (HRW.out W2 HB2.out).mono ?_
    rintro e W3 ⟨rfl, hb⟩
    have HB3 := Lib.hid (HB2.out.trans (hb.mono HB2.out.size))
    clear hb
    go_wp2_with (fail)
    refine (HFL.out W3 HB3.out).mono ?_
    rintro e W4 ⟨rfl, hb⟩
    have HB4 := Lib.hid (HB3.out.trans (hb.mono HB3.out.size))
    clear hb
    go_wp2_with (fail)
    refine (HRF.out W4 HB4.out).mono ?_
    rintro e W5 ⟨rfl, hb⟩
    have HB5 := Lib.hid (HB4.out.trans (hb.mono HB4.out.size))
    clear hb
    go_wp2_with (fail)
    refine (HCU.out W5 HB5.out).mono ?_
    rintro e W6 ⟨⟨v6, rfl, ho6⟩, hb⟩
    have HO6 := Lib.hid ho6.lks
    have HB6 := Lib.hid (HB5.out.trans (hb.mono HB5.out.size))
    clear hb ho6
    go_wp2_with (fail)
    refine (HRC.out W6 HB6.out).mono ?_
    rintro e W7 ⟨⟨v7, rfl, ho7⟩, hb⟩
    have HO7 := Lib.hid ho7.lks
    have HO67 := Lib.hid (HO6.out.kept hb)
    have HB7 := Lib.hid (HB6.out.trans (hb.mono HB6.out.size))
    clear hb ho7
    go_wp2_with (fail)
    refine (links_any W7 v6 v7 ct ct HO67.out HO7.out).mono ?_
    rintro e W8 ⟨rfl, hb⟩
    have HB8 := Lib.hid (HB7.out.trans (hb.mono HB7.out.size))
    clear hb
    rw [decide_eq_true (rfl : ct = ct)]
    go_wp2_with (fail)
    refine (awake_any W8).mono ?_
    rintro e W9 ⟨rfl, hb⟩
    have HB9 := Lib.hid (HB8.out.trans (hb.mono HB8.out.size))
    clear hb
    go_wp2_with (fail)
    go_ret
    exact ⟨rfl, HB9.out⟩
  · have hfalse : (decide (n ≤ 10) && fitB n xs) = false := by
      by_cases h1 : n ≤ 10
      · have h2 : ¬ FitX n xs := fun h => hf ⟨h1, h⟩
        rw [fitB_false h2, Bool.and_false]
      · rw [decide_eq_false h1, Bool.false_and]
    rw [hfalse] at HC
    clear hfalse hf hx
    go_enter Try.func3, Try.ntmps3
    go_wp2_with (fail)
    refine HC.out.mono ?_
    rintro e W1 ⟨rfl, hb⟩
    have HB1 := Lib.hid hb
    clear hb
    go_wp2_with (fail)
    refine (awake_any W1).mono ?_
    rintro e W9 ⟨rfl, hb⟩
    have HB9 := Lib.hid (HB1.out.trans (hb.mono HB1.out.size))
    clear hb
    go_wp2_with (fail)
    go_ret
    exact ⟨rfl, HB9.out⟩

end Go.Proofs.Ytenilbofncfbdaa

