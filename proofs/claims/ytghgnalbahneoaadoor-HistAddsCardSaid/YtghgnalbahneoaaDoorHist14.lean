/- Histograms: the document's rank. -/
import Derived.Test.YtghgnalbahneoaaDoorHist13
namespace Go.Proofs.YtghgnalbahneoaaDoor
open Go.RowKit

def rankF (num den total : Int) : Int := max (total / den * num + (total % den * num + den - 1) / den) 1

theorem rank_in (num den total : Int) (hn0 : 0 ≤ num) (hnd : num ≤ den) (hd0 : 1 ≤ den) (hd1 : den ≤ 1000000) (ht0 : 0 ≤ total) (ht1 : total ≤ 1000000000000000) :
    0 ≤ total / den ∧ total / den ≤ 1000000000000000 ∧ 0 ≤ total / den * num ∧ total / den * num ≤ total ∧ 0 ≤ total % den ∧ total % den < den ∧ 0 ≤ total % den * num ∧ total % den * num ≤ 1000000000000 := by
  have hq0 := Int.ediv_nonneg ht0 (show 0 ≤ den by omega)
  have hm0 := Int.emod_nonneg total (show den ≠ 0 by omega)
  have hm1 := Int.emod_lt_of_pos total (show 0 < den by omega)
  have hq1 := Int.ediv_le_self den ht0
  have h1 : total / den * num ≤ total / den * den := Int.mul_le_mul_of_nonneg_left hnd hq0
  have h2 := Int.ediv_mul_le total (show den ≠ 0 by omega)
  have h3 := Int.mul_nonneg hq0 hn0
  have h4 := Int.mul_nonneg hm0 hn0
  have h5 : total % den * num ≤ 1000000 * 1000000 := Int.mul_le_mul (by omega) (by omega) hn0 (by omega)
  refine ⟨hq0, by omega, h3, by omega, hm0, hm1, h4, by omega⟩

set_option maxRecDepth 100000 in
set_option maxHeartbeats 1000000 in
theorem rrank_any (num den total : Int) (w : World) (hn0 : 0 ≤ num) (hnd : num ≤ den) (hd0 : 1 ≤ den) (hd1 : den ≤ 1000000) (ht0 : 0 ≤ total) (ht1 : total ≤ 1000000000000000) : Calls Tryd.prog 39 #[.int .i64 num, .int .i64 den, .int .i64 total] w fun e w' => e = .returned (.int .i64 (rankF num den total)) ∧ w = w' := by
  obtain ⟨a1, a2, a3, a4, a5, a6, a7, a8⟩ := rank_in num den total hn0 hnd hd0 hd1 ht0 ht1
  have HR : Hid (rankF num den total = max (total / den * num + (total % den * num + den - 1) / den) 1) := rfl
  have e1 : total.tdiv den = total / den := Int.tdiv_eq_ediv_of_nonneg ht0
  have e2 : total.tmod den = total % den := Int.tmod_eq_emod_of_nonneg ht0
  have hz : den ≠ 0 := by omega
  have b0 : 0 ≤ (total % den * num + den - 1) / den := Int.ediv_nonneg (by omega) (by omega)
  have b1 : (total % den * num + den - 1) / den ≤ total % den * num + den - 1 := Int.ediv_le_self den (by omega)
  have hw : IntKind.i64.wrap (total / den * num + (total % den * num + den - 1) / den) = total / den * num + (total % den * num + den - 1) / den := by rw [IntKind.wrap_i64]; omega
  go_enter Tryd.func39, Tryd.ntmps39
  go_wp2
  go_ret
  rw [HR.out]
  exact ⟨rfl, rfl⟩

end Go.Proofs.YtghgnalbahneoaaDoor
