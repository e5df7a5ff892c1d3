/- Contracts: Ceil, Round on both sides (by program: wip/tools/gen_ops2.py). -/
import Derived.Test.YtahfapeggijfkaaDoorFrac4
namespace Go.Proofs.YtahfapeggijfkaaDoor
open Go.RowKit

def ceilF (n d : Int) : Int := -((-n) / d)
def roundF (n d : Int) : Int := if n < 0 then -((2 * (-n) + d) / (2 * d)) else (2 * n + d) / (2 * d)
theorem ediv_bd (n d : Int) (hd : 0 < d) : -(n.natAbs : Int) - 1 ≤ n / d ∧ n / d ≤ n.natAbs := by
  rcases Int.lt_or_le n 0 with h | h
  · have h1 : n / d ≤ 0 := by
      have := Int.ediv_neg_of_neg_of_pos h hd; omega
    have h2 : -(n.natAbs : Int) ≤ n / d := by
      rw [Int.le_ediv_iff_mul_le hd]
      have : -(n.natAbs : Int) = n := by omega
      rw [this]
      have h3 := Int.mul_nonneg (show 0 ≤ -n by omega) (show 0 ≤ d - 1 by omega)
      rw [Int.neg_mul, Int.mul_sub] at h3
      omega
    omega
  · have h1 := Int.ediv_nonneg h (show 0 ≤ d by omega)
    have h2 := Int.ediv_le_self d h
    omega


end Go.Proofs.YtahfapeggijfkaaDoor
