/- DeriveCounts: the law, walked (by program: wip/tools/gen_derivelaws.py). -/
import Derived.Test.YtahfapeggijfkaaDoorDerive4
namespace Go.Proofs.YtahfapeggijfkaaDoor
open Go.RowKit

theorem counts_n {N S q r x : Int} (hN : 1 ≤ N) (hS : 2 * N * (N + 1) ≤ S) (hq : q * N + r = S) (hr0 : 0 ≤ r) (hr : r < N) (hx : x = q ∨ (x = q - 1 ∧ r = 0) ∨ (x = q + 1 ∧ r ≠ 0)) : 0 < x ∧ (2 * S + x) / (2 * x) = N := by
  have hq2 : 2 * N + 2 ≤ q := by
    rcases Int.lt_or_le q (2 * N + 2) with h | h
    · have := Int.mul_le_mul_of_nonneg_right (show q ≤ 2 * N + 1 by omega) (show 0 ≤ N by omega)
      grind
    · exact h
  have hx0 : 0 < x := by omega
  refine ⟨hx0, ?_⟩
  have a1 : N * (2 * x) ≤ 2 * S + x := by rcases hx with rfl | ⟨rfl, rfl⟩ | ⟨rfl, _⟩ <;> grind
  have a2 : 2 * S + x < (N + 1) * (2 * x) := by rcases hx with rfl | ⟨rfl, rfl⟩ | ⟨rfl, _⟩ <;> grind
  have b1 := (Int.le_ediv_iff_mul_le (show 0 < 2 * x by omega)).2 a1
  have b2 := (Int.ediv_lt_iff_lt_mul (show 0 < 2 * x by omega)).2 a2
  omega
set_option maxRecDepth 100000 in
set_option maxHeartbeats 4000000 in
theorem law_DeriveCounts (n sc off : Int) (w : World) (hn0 : -9223372036854775808 ≤ n) (hn1 : n < 9223372036854775808) (hsc0 : -9223372036854775808 ≤ sc) (hsc1 : sc < 9223372036854775808) (ht : TabT w) : Calls Tryd.prog 4 #[.int .i64 n, .int .i64 sc, .int .i64 off] w fun e w' => e = .returned (.bool true) ∧ Below w.heap.size w w' := by
  obtain ⟨u, hu⟩ : ∃ u, IntKind.u64.wrap n = u := ⟨_, rfl⟩
  obtain ⟨v, hv⟩ : ∃ v, IntKind.u64.wrap sc = v := ⟨_, rfl⟩
  have hu0 : 0 ≤ u ∧ u < 18446744073709551616 := by rw [← hu, IntKind.wrap_u64]; omega
  have hv0 : 0 ≤ v ∧ v < 18446744073709551616 := by rw [← hv, IntKind.wrap_u64]; omega
  obtain ⟨N, hN⟩ : ∃ N, 1 + u % 700 = N := ⟨_, rfl⟩
  obtain ⟨S, hS⟩ : ∃ S, 1 + v % 1048576 = S := ⟨_, rfl⟩
  have hN0 : 1 ≤ N ∧ N ≤ 700 := by omega
  have hS0 : 1 ≤ S ∧ S ≤ 1048576 := by omega
  obtain ⟨u0, u1⟩ := hu0
  obtain ⟨v0, v1⟩ := hv0
  obtain ⟨N0, N1⟩ := hN0
  obtain ⟨S0, S1⟩ := hS0
  have hP : 0 ≤ 2 * N * (N + 1) ∧ 2 * N * (N + 1) ≤ 981400 := by
    have a := Int.mul_le_mul (show 2 * N ≤ 1400 by omega) (show N + 1 ≤ 701 by omega) (by omega) (by omega)
    have b := Int.mul_nonneg (show 0 ≤ 2 * N by omega) (show 0 ≤ N + 1 by omega)
    omega
  obtain ⟨P0, P1⟩ := hP
  have L : Hid (Below w.heap.size w w) := Below.refl _ _
  by_cases hPS : S < 2 * N * (N + 1)
  · go_enter Tryd.func4, Tryd.ntmps4
    go_wp2_with (fail)
    refine (awake_any _ (ht.below L.out)).mono ?_
    rintro e w1 ⟨rfl, hB⟩
    replace L := Lib.hid (L.out.trans (hB.mono L.out.size))
    clear hB 
    go_wp2
    go_ret
    exact ⟨rfl, L.out⟩
  · have hin : inputF 2 1 S = (S, 0) := by
      have h1 : rsclB 2 S = true := by unfold rsclB; rw [sclB_t S0 S1]; rfl
      rw [inputF_in (by omega) h1, if_pos rfl]
      unfold unitF
      rw [if_neg (by omega), timesF_yes (by decide) (fitB_t (by omega) (by omega)), Int.one_mul]
    have c1 : ∀ W, _ := fun W => input_any 2 1 S W
    rw [hin] at c1
    unfold numV at c1
    simp only at c1
    obtain ⟨q, hq⟩ : ∃ q, S / N = q := ⟨_, rfl⟩
    obtain ⟨r, hr⟩ : ∃ r, S % N = r := ⟨_, rfl⟩
    have hqr : q * N + r = S := by rw [← hq, ← hr, Int.mul_comm]; exact Int.mul_ediv_add_emod S N
    have hr0 : 0 ≤ r ∧ r < N := by rw [← hr]; exact ⟨Int.emod_nonneg _ (by omega), Int.emod_lt_of_pos _ (by omega)⟩
    have hq0 : 0 ≤ q ∧ q ≤ 1048576 := by
      rw [← hq]
      have := Int.ediv_nonneg (show 0 ≤ S by omega) (show 0 ≤ N by omega)
      have := Int.ediv_le_self N (show 0 ≤ S by omega)
      omega
    have hcount : ∀ x, (x = q ∨ (x = q - 1 ∧ r = 0) ∨ (x = q + 1 ∧ r ≠ 0)) → countF x S = (N, 0) := fun x hx => by
      obtain ⟨h1, h2⟩ := counts_n N0 (by omega) hqr hr0.1 hr0.2 hx
      have hw : wrongF x S = 0 := by unfold wrongF; rw [sclB_t S0 S1, fitB_t (by omega) (by omega)]; rfl
      rw [countF_yes hw (by omega), h2]
    have HC := Lib.hid hcount
    have HQR := Lib.hid hqr
    clear hcount hqr hin
    obtain ⟨r0, r1⟩ := hr0
    obtain ⟨q0, q1⟩ := hq0
    have hNz : (N == 0) = false := by rw [beq_eq_false_iff_ne]; omega
    by_cases ho : off < 0
    · skip
      by_cases hr00 : r = 0
      · skip
        have hrz : (r == 0) = true := by rw [beq_iff_eq]; exact hr00
        have hrn : (r != 0) = false := by rw [bne_eq_false_iff_eq]; exact hr00
        have c2 : ∀ W, _ := fun W => count_any (q - 1) S W
        rw [HC.out (q - 1) (.inr (.inl ⟨rfl, hr00⟩))] at c2
        simp only at c2
        go_enter Tryd.func4, Tryd.ntmps4
        go_wp2_with (fail)
        refine (c1 _).mono ?_
        rintro e w1 ⟨rfl, hB⟩
        replace L := Lib.hid (L.out.trans (hB.mono L.out.size))
        clear hB 
        go_wp2_with (fail)
        refine (c2 _).mono ?_
        rintro e V0 ⟨rfl, rfl⟩
        go_wp2_with (fail)
        refine (awake_any _ (ht.below L.out)).mono ?_
        rintro e w2 ⟨rfl, hB⟩
        replace L := Lib.hid (L.out.trans (hB.mono L.out.size))
        clear hB 
        go_wp2
        go_ret
        exact ⟨rfl, L.out⟩
      · skip
        have hrz : (r == 0) = false := by rw [beq_eq_false_iff_ne]; exact hr00
        have hrn : (r != 0) = true := by rw [bne_iff_ne]; exact hr00
        have c2 : ∀ W, _ := fun W => count_any (q) S W
        rw [HC.out (q) (.inl rfl)] at c2
        simp only at c2
        go_enter Tryd.func4, Tryd.ntmps4
        go_wp2_with (fail)
        refine (c1 _).mono ?_
        rintro e w1 ⟨rfl, hB⟩
        replace L := Lib.hid (L.out.trans (hB.mono L.out.size))
        clear hB 
        go_wp2_with (fail)
        refine (c2 _).mono ?_
        rintro e V0 ⟨rfl, rfl⟩
        go_wp2_with (fail)
        refine (awake_any _ (ht.below L.out)).mono ?_
        rintro e w2 ⟨rfl, hB⟩
        replace L := Lib.hid (L.out.trans (hB.mono L.out.size))
        clear hB 
        go_wp2
        go_ret
        exact ⟨rfl, L.out⟩
    · skip
      by_cases ho2 : 0 < off
      · skip
        by_cases hr00 : r = 0
        · skip
          have hrz : (r == 0) = true := by rw [beq_iff_eq]; exact hr00
          have hrn : (r != 0) = false := by rw [bne_eq_false_iff_eq]; exact hr00
          have c2 : ∀ W, _ := fun W => count_any (q) S W
          rw [HC.out (q) (.inl rfl)] at c2
          simp only at c2
          go_enter Tryd.func4, Tryd.ntmps4
          go_wp2_with (fail)
          refine (c1 _).mono ?_
          rintro e w1 ⟨rfl, hB⟩
          replace L := Lib.hid (L.out.trans (hB.mono L.out.size))
          clear hB 
          go_wp2_with (fail)
          refine (c2 _).mono ?_
          rintro e V0 ⟨rfl, rfl⟩
          go_wp2_with (fail)
          refine (awake_any _ (ht.below L.out)).mono ?_
          rintro e w2 ⟨rfl, hB⟩
          replace L := Lib.hid (L.out.trans (hB.mono L.out.size))
          clear hB 
          go_wp2
          go_ret
          exact ⟨rfl, L.out⟩
        · skip
          have hrz : (r == 0) = false := by rw [beq_eq_false_iff_ne]; exact hr00
          have hrn : (r != 0) = true := by rw [bne_iff_ne]; exact hr00
          have c2 : ∀ W, _ := fun W => count_any (q + 1) S W
          rw [HC.out (q + 1) (.inr (.inr ⟨rfl, hr00⟩))] at c2
          simp only at c2
          go_enter Tryd.func4, Tryd.ntmps4
          go_wp2_with (fail)
          refine (c1 _).mono ?_
          rintro e w1 ⟨rfl, hB⟩
          replace L := Lib.hid (L.out.trans (hB.mono L.out.size))
          clear hB 
          go_wp2_with (fail)
          refine (c2 _).mono ?_
          rintro e V0 ⟨rfl, rfl⟩
          go_wp2_with (fail)
          refine (awake_any _ (ht.below L.out)).mono ?_
          rintro e w2 ⟨rfl, hB⟩
          replace L := Lib.hid (L.out.trans (hB.mono L.out.size))
          clear hB 
          go_wp2
          go_ret
          exact ⟨rfl, L.out⟩
      · skip
        skip
        have c2 : ∀ W, _ := fun W => count_any (q) S W
        rw [HC.out (q) (.inl rfl)] at c2
        simp only at c2
        go_enter Tryd.func4, Tryd.ntmps4
        go_wp2_with (fail)
        refine (c1 _).mono ?_
        rintro e w1 ⟨rfl, hB⟩
        replace L := Lib.hid (L.out.trans (hB.mono L.out.size))
        clear hB 
        go_wp2_with (fail)
        refine (c2 _).mono ?_
        rintro e V0 ⟨rfl, rfl⟩
        go_wp2_with (fail)
        refine (awake_any _ (ht.below L.out)).mono ?_
        rintro e w2 ⟨rfl, hB⟩
        replace L := Lib.hid (L.out.trans (hB.mono L.out.size))
        clear hB 
        go_wp2
        go_ret
        exact ⟨rfl, L.out⟩

end Go.Proofs.YtahfapeggijfkaaDoor
