/- Contracts: Valid on both sides (by program: wip/tools/gen_valid.py). -/
import Derived.Test.YtahfapeggijfkaaDoorFrac2
namespace Go.Proofs.YtahfapeggijfkaaDoor
open Go.RowKit

instance (n d : Int) : Decidable (Val n d) := inferInstanceAs (Decidable (_ ∧ _ ∧ _ ∧ _ ∧ _))
def valB (n d : Int) : Bool := decide (Val n d)
theorem valB_iff (n d : Int) : valB n d = true ↔ Val n d := decide_eq_true_iff


set_option maxRecDepth 100000 in
set_option maxHeartbeats 4000000 in
theorem valid_any (n d : Int) (w : World) (hn0 : -9223372036854775808 ≤ n) (hn1 : n < 9223372036854775808) (hd0 : -9223372036854775808 ≤ d) (hd1 : d < 9223372036854775808) :
    Calls Tryd.prog 35 #[frV n d] w fun e w' => e = .returned (.bool (valB n d)) ∧ Below w.heap.size w w' := by
  have hc1 : ∀ W, _ := fun W => size_any n W hn0 hn1
  by_cases h1 : 1 ≤ d
  · have hy : (d.natAbs : Int) = d := by omega
    have hc2 : ∀ W, _ := fun W => common_any n.natAbs d.natAbs W (by omega) (by omega)
    rw [hy] at hc2
    clear hy
    have t1 : decide (1 ≤ d) = true := by simpa using h1
    by_cases h2 : d ≤ 2147483647
    · have t2 : decide (d ≤ 2147483647) = true := by simpa using h2
      by_cases h3 : -2147483647 ≤ n
      · have t3 : decide (-2147483647 ≤ n) = true := by simpa using h3
        by_cases h4 : n ≤ 2147483647
        · have t4 : decide (n ≤ 2147483647) = true := by simpa using h4
          by_cases h5 : Nat.gcd n.natAbs d.natAbs = 1
          · have hv : valB n d = true := (valB_iff n d).2 ⟨h1, h2, h3, h4, h5⟩
            rw [h5] at hc2
            clear h5
            have hv : valB n d = true := hv
            have HV := Lib.hid hv
            clear hv
            go_enter Tryd.func35, Tryd.ntmps35
            go_wp2
            go_quiet ((first | (go_at_call 41; exact Calls.quiet_of_same (hc1 _)) | (go_at_call 42; exact Calls.quiet_of (hc2 _))))
            go_wp2
            go_ret
            rw [HV.out]
            exact ⟨rfl, by (repeat (first | exact Below.refl _ _ | refine bel_drew ?_ | refine bel_alloc ?_ (by simp)))⟩
          · have hv : valB n d = false := by rw [valB, decide_eq_false_iff_not]; rintro ⟨a1, a2, a3, a4, a5⟩; exact h5 a5
            have t5 : ((Nat.gcd n.natAbs d.natAbs : Int) == 1) = false := by rw [beq_eq_false_iff_ne]; omega
            have HN5 := Lib.hid h5
            clear h5
            have hv : valB n d = false := hv
            have HV := Lib.hid hv
            clear hv
            go_enter Tryd.func35, Tryd.ntmps35
            go_wp2
            go_quiet ((first | (go_at_call 41; exact Calls.quiet_of_same (hc1 _)) | (go_at_call 42; exact Calls.quiet_of (hc2 _))))
            go_wp2
            go_ret
            rw [HV.out]
            exact ⟨rfl, by (repeat (first | exact Below.refl _ _ | refine bel_drew ?_ | refine bel_alloc ?_ (by simp)))⟩
        · have t4 : decide (n ≤ 2147483647) = false := by simpa using h4
          have hv : valB n d = false := by rw [valB, decide_eq_false_iff_not]; rintro ⟨a1, a2, a3, a4, a5⟩; omega
          have HV := Lib.hid hv
          clear hv
          go_enter Tryd.func35, Tryd.ntmps35
          go_wp2
          go_quiet ((first | (go_at_call 41; exact Calls.quiet_of_same (hc1 _)) | (go_at_call 42; exact Calls.quiet_of (hc2 _))))
          go_wp2
          go_ret
          rw [HV.out]
          exact ⟨rfl, by (repeat (first | exact Below.refl _ _ | refine bel_drew ?_ | refine bel_alloc ?_ (by simp)))⟩
      · have t3 : decide (-2147483647 ≤ n) = false := by simpa using h3
        have hv : valB n d = false := by rw [valB, decide_eq_false_iff_not]; rintro ⟨a1, a2, a3, a4, a5⟩; omega
        have HV := Lib.hid hv
        clear hv
        go_enter Tryd.func35, Tryd.ntmps35
        go_wp2
        go_quiet ((first | (go_at_call 41; exact Calls.quiet_of_same (hc1 _)) | (go_at_call 42; exact Calls.quiet_of (hc2 _))))
        go_wp2
        go_ret
        rw [HV.out]
        exact ⟨rfl, by (repeat (first | exact Below.refl _ _ | refine bel_drew ?_ | refine bel_alloc ?_ (by simp)))⟩
    · have t2 : decide (d ≤ 2147483647) = false := by simpa using h2
      have hv : valB n d = false := by rw [valB, decide_eq_false_iff_not]; rintro ⟨a1, a2, a3, a4, a5⟩; omega
      have HV := Lib.hid hv
      clear hv
      go_enter Tryd.func35, Tryd.ntmps35
      go_wp2
      go_quiet ((first | (go_at_call 41; exact Calls.quiet_of_same (hc1 _)) | (go_at_call 42; exact Calls.quiet_of (hc2 _))))
      go_wp2
      go_ret
      rw [HV.out]
      exact ⟨rfl, by (repeat (first | exact Below.refl _ _ | refine bel_drew ?_ | refine bel_alloc ?_ (by simp)))⟩
  · have hc2 : ∀ W, Calls Tryd.prog 42 #[.int .u64 0, .int .u64 0] W fun e w' => e = .returned (.int .u64 0) ∧ ∃ n, w' = W.drewN n := fun W => common_any 0 0 W (by decide) (by decide)
    have t1 : decide (1 ≤ d) = false := by simpa using h1
    have hv : valB n d = false := by rw [valB, decide_eq_false_iff_not]; rintro ⟨a1, a2, a3, a4, a5⟩; omega
    have HV := Lib.hid hv
    clear hv
    go_enter Tryd.func35, Tryd.ntmps35
    go_wp2
    go_quiet ((first | (go_at_call 41; exact Calls.quiet_of_same (hc1 _)) | (go_at_call 42; exact Calls.quiet_of (hc2 _))))
    go_wp2
    go_ret
    rw [HV.out]
    exact ⟨rfl, by (repeat (first | exact Below.refl _ _ | refine bel_drew ?_ | refine bel_alloc ?_ (by simp)))⟩

set_option maxRecDepth 100000 in
set_option maxHeartbeats 4000000 in
theorem rvalid_any (n d : Int) (w : World) (hn0 : -9223372036854775808 ≤ n) (hn1 : n < 9223372036854775808) (hd0 : -9223372036854775808 ≤ d) (hd1 : d < 9223372036854775808) :
    Calls Tryd.prog 17 #[frV n d] w fun e w' => e = .returned (.bool (valB n d)) ∧ Below w.heap.size w w' := by
  have hc1 : ∀ W, _ := fun W => abs_any n W hn0 hn1
  by_cases h1 : 1 ≤ d
  · have hy : (d.natAbs : Int) = d := by omega
    have hc2 : ∀ W, _ := fun W => gcd_any n.natAbs d.natAbs W (by omega) (by omega)
    rw [hy] at hc2
    clear hy
    have t1 : decide (1 ≤ d) = true := by simpa using h1
    by_cases h2 : d ≤ 2147483647
    · have t2 : decide (d ≤ 2147483647) = true := by simpa using h2
      by_cases h3 : -2147483647 ≤ n
      · have t3 : decide (-2147483647 ≤ n) = true := by simpa using h3
        by_cases h4 : n ≤ 2147483647
        · have t4 : decide (n ≤ 2147483647) = true := by simpa using h4
          by_cases h5 : Nat.gcd n.natAbs d.natAbs = 1
          · have hv : valB n d = true := (valB_iff n d).2 ⟨h1, h2, h3, h4, h5⟩
            rw [h5] at hc2
            clear h5
            have hv : valB n d = true := hv
            have HV := Lib.hid hv
            clear hv
            go_enter Tryd.func17, Tryd.ntmps17
            go_wp2
            go_quiet ((first | (go_at_call 34; exact Calls.quiet_of_same (hc1 _)) | (go_at_call 33; exact Calls.quiet_of_same (hc2 _))))
            go_wp2
            go_ret
            rw [HV.out]
            exact ⟨rfl, by (repeat (first | exact Below.refl _ _ | refine bel_drew ?_ | refine bel_alloc ?_ (by simp)))⟩
          · have hv : valB n d = false := by rw [valB, decide_eq_false_iff_not]; rintro ⟨a1, a2, a3, a4, a5⟩; exact h5 a5
            have t5 : ((Nat.gcd n.natAbs d.natAbs : Int) == 1) = false := by rw [beq_eq_false_iff_ne]; omega
            have HN5 := Lib.hid h5
            clear h5
            have hv : valB n d = false := hv
            have HV := Lib.hid hv
            clear hv
            go_enter Tryd.func17, Tryd.ntmps17
            go_wp2
            go_quiet ((first | (go_at_call 34; exact Calls.quiet_of_same (hc1 _)) | (go_at_call 33; exact Calls.quiet_of_same (hc2 _))))
            go_wp2
            go_ret
            rw [HV.out]
            exact ⟨rfl, by (repeat (first | exact Below.refl _ _ | refine bel_drew ?_ | refine bel_alloc ?_ (by simp)))⟩
        · have t4 : decide (n ≤ 2147483647) = false := by simpa using h4
          have hv : valB n d = false := by rw [valB, decide_eq_false_iff_not]; rintro ⟨a1, a2, a3, a4, a5⟩; omega
          have HV := Lib.hid hv
          clear hv
          go_enter Tryd.func17, Tryd.ntmps17
          go_wp2
          go_quiet ((first | (go_at_call 34; exact Calls.quiet_of_same (hc1 _)) | (go_at_call 33; exact Calls.quiet_of_same (hc2 _))))
          go_wp2
          go_ret
          rw [HV.out]
          exact ⟨rfl, by (repeat (first | exact Below.refl _ _ | refine bel_drew ?_ | refine bel_alloc ?_ (by simp)))⟩
      · have t3 : decide (-2147483647 ≤ n) = false := by simpa using h3
        have hv : valB n d = false := by rw [valB, decide_eq_false_iff_not]; rintro ⟨a1, a2, a3, a4, a5⟩; omega
        have HV := Lib.hid hv
        clear hv
        go_enter Tryd.func17, Tryd.ntmps17
        go_wp2
        go_quiet ((first | (go_at_call 34; exact Calls.quiet_of_same (hc1 _)) | (go_at_call 33; exact Calls.quiet_of_same (hc2 _))))
        go_wp2
        go_ret
        rw [HV.out]
        exact ⟨rfl, by (repeat (first | exact Below.refl _ _ | refine bel_drew ?_ | refine bel_alloc ?_ (by simp)))⟩
    · have t2 : decide (d ≤ 2147483647) = false := by simpa using h2
      have hv : valB n d = false := by rw [valB, decide_eq_false_iff_not]; rintro ⟨a1, a2, a3, a4, a5⟩; omega
      have HV := Lib.hid hv
      clear hv
      go_enter Tryd.func17, Tryd.ntmps17
      go_wp2
      go_quiet ((first | (go_at_call 34; exact Calls.quiet_of_same (hc1 _)) | (go_at_call 33; exact Calls.quiet_of_same (hc2 _))))
      go_wp2
      go_ret
      rw [HV.out]
      exact ⟨rfl, by (repeat (first | exact Below.refl _ _ | refine bel_drew ?_ | refine bel_alloc ?_ (by simp)))⟩
  · have hc2 : ∀ W, Calls Tryd.prog 33 #[.int .u64 0, .int .u64 0] W fun e w' => e = .returned (.int .u64 0) ∧ w' = W := fun W => gcd_any 0 0 W (by decide) (by decide)
    have t1 : decide (1 ≤ d) = false := by simpa using h1
    have hv : valB n d = false := by rw [valB, decide_eq_false_iff_not]; rintro ⟨a1, a2, a3, a4, a5⟩; omega
    have HV := Lib.hid hv
    clear hv
    go_enter Tryd.func17, Tryd.ntmps17
    go_wp2
    go_quiet ((first | (go_at_call 34; exact Calls.quiet_of_same (hc1 _)) | (go_at_call 33; exact Calls.quiet_of_same (hc2 _))))
    go_wp2
    go_ret
    rw [HV.out]
    exact ⟨rfl, by (repeat (first | exact Below.refl _ _ | refine bel_drew ?_ | refine bel_alloc ?_ (by simp)))⟩

end Go.Proofs.YtahfapeggijfkaaDoor
