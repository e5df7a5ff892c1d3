/- Histograms: the document's Quantile. -/
import Derived.Test.YtghgnalbahneoaaDoorHist14
namespace Go.Proofs.YtghgnalbahneoaaDoor
open Go.RowKit

/-- rank r is not in the first k buckets -/
def Past (cs : List Int) (r : Int) (k : Nat) : Prop := ∀ j, j < k → cs.getD j 0 < r - (cs.take j).sum
/-- what Quantile answers -/
def QuantR (bs cs : List Int) (num den : Int) (none_ : Int) (e : Ending) : Prop :=
  ((den < 1 ∨ 1000000 < den ∨ num < 0 ∨ den < num) ∧ e = .returned (.tuple #[rgV false 0 false 0, .int .i64 31])) ∨
  ((1 ≤ den ∧ den ≤ 1000000 ∧ 0 ≤ num ∧ num ≤ den) ∧ cs.sum = 0 ∧ e = .returned (.tuple #[rgV false 0 false 0, .int .i64 50])) ∨
  ((1 ≤ den ∧ den ≤ 1000000 ∧ 0 ≤ num ∧ num ≤ den) ∧ cs.sum ≠ 0 ∧
    ((∃ k, k < cs.length ∧ Past cs (rankF num den cs.sum) k ∧ rankF num den cs.sum - (cs.take k).sum ≤ cs.getD k 0 ∧ e = .returned (.tuple #[rgK bs k, .int .i64 0])) ∨
     (Past cs (rankF num den cs.sum) cs.length ∧ e = .returned (.tuple #[rgV false 0 false 0, .int .i64 none_]))))
theorem Past.step {cs : List Int} {r : Int} {k : Nat} (h : Past cs r k) (hk : cs.getD k 0 < r - (cs.take k).sum) : Past cs r (k + 1) := by
  intro j hj
  rcases Nat.lt_or_ge j k with h1 | h1
  · exact h j h1
  · obtain rfl : j = k := by omega
    exact hk
theorem Past.zero (cs : List Int) (r : Int) : Past cs r 0 := fun j hj => absurd hj (by omega)
/-- a rank lies in some bucket -/
theorem rank_le (num den total : Int) (hn0 : 0 ≤ num) (hnd : num ≤ den) (hd0 : 1 ≤ den) (ht0 : 1 ≤ total) : 1 ≤ rankF num den total ∧ rankF num den total ≤ total := by
  have hm0 := Int.emod_nonneg total (show den ≠ 0 by omega)
  have hq0 := Int.ediv_nonneg (show 0 ≤ total by omega) (show 0 ≤ den by omega)
  have h1 : total / den * num ≤ total / den * den := Int.mul_le_mul_of_nonneg_left hnd hq0
  have h2 : total % den * num ≤ total % den * den := Int.mul_le_mul_of_nonneg_left hnd hm0
  have h3 : (total % den * num + den - 1) / den ≤ total % den := by
    have : (total % den * num + den - 1) / den < total % den + 1 := by
      refine Int.ediv_lt_of_lt_mul (by omega) ?_
      rw [Int.add_mul]; omega
    omega
  have h4 := Int.mul_ediv_add_emod total den
  have h5 : den * (total / den) = total / den * den := Int.mul_comm _ _
  unfold rankF
  omega

end Go.Proofs.YtghgnalbahneoaaDoor
