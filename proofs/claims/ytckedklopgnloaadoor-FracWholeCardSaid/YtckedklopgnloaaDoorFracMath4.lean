/- Fractions, plain: whole numbers near by. No program here. -/
import Derived.Test.YtckedklopgnloaaDoorFracMath2
namespace Go.Proofs.YtckedklopgnloaaDoor

theorem round_between (m d : Int) (hd : 0 < d) : m / d ≤ (2 * m + d) / (2 * d) ∧ (2 * m + d) / (2 * d) ≤ -((-m) / d) := by
  have a1 := Int.ediv_mul_le m (show d ≠ 0 by omega)
  have b2 := Int.lt_ediv_add_one_mul_self (-m) hd
  have c1 := Int.ediv_mul_le (2 * m + d) (show 2 * d ≠ 0 by omega)
  have c2 := Int.lt_ediv_add_one_mul_self (2 * m + d) (show 0 < 2 * d by omega)
  have b1 := Int.ediv_mul_le (-m) (show d ≠ 0 by omega)
  generalize m / d = x at *
  generalize (-m) / d = y at *
  generalize (2 * m + d) / (2 * d) = r at *
  constructor
  · have : x < r + 1 := lt_of_mul (k := 2 * d) (by omega) (by
      have e : x * (2 * d) = 2 * (x * d) := by grind
      omega)
    omega
  · have : r < -y + 1 := lt_of_mul (k := 2 * d) (by omega) (by
      have e : (-y + 1) * (2 * d) = -(2 * (y * d)) + 2 * d := by grind
      omega)
    omega
theorem floor_ceil (n d : Int) (hd : 0 < d) : -((-n) / d) - n / d ≤ 1 := by
  have a2 := Int.lt_ediv_add_one_mul_self n hd
  have b2 := Int.lt_ediv_add_one_mul_self (-n) hd
  generalize n / d = x at *
  generalize (-n) / d = y at *
  have : -y - 1 < x + 1 := lt_of_mul (k := d) hd (by
    have e : (-y - 1) * d = -((y + 1) * d) := by grind
    omega)
  omega
theorem round_facts (n d : Int) (hd : 0 < d) : n / d ≤ roundF n d ∧ roundF n d ≤ -((-n) / d) ∧ roundF (-n) d = -roundF n d := by
  unfold roundF
  rcases Int.lt_trichotomy n 0 with h | h | h
  · rw [if_pos h, if_neg (by omega)]
    obtain ⟨g1, g2⟩ := round_between (-n) d hd
    rw [Int.neg_neg] at g2
    exact ⟨by omega, by omega, by omega⟩
  · subst h
    rw [if_neg (by omega), if_neg (by omega)]
    obtain ⟨g1, g2⟩ := round_between 0 d hd
    have e0 : (2 * 0 + d) / (2 * d) = 0 := by
      rw [Int.mul_zero, Int.zero_add]
      exact Int.ediv_eq_zero_of_lt (by omega) (by omega)
    rw [e0] at g1 g2 ⊢
    refine ⟨g1, g2, ?_⟩
    rw [Int.neg_zero, e0]
  · rw [if_neg (by omega), if_pos (by omega), Int.neg_neg]
    obtain ⟨g1, g2⟩ := round_between n d hd
    exact ⟨g1, g2, rfl⟩

end Go.Proofs.YtckedklopgnloaaDoor
