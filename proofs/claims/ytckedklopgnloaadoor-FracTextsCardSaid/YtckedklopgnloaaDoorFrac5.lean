/- Contracts: Ceil, Round on both sides (by program: wip/tools/gen_ops2.py). -/
import Derived.Test.YtckedklopgnloaaDoorFrac4
namespace Go.Proofs.YtckedklopgnloaaDoor
open Go.RowKit

def ceilF (n d : Int) : Int := -((-n) / d)
def roundF (n d : Int) : Int := if n < 0 then -((2 * (-n) + d) / (2 * d)) else (2 * n + d) / (2 * d)
theorem ediv_bd (n d : Int) (hd : 0 < d) : -(n.natAbs : Int) - 1 ≤ n / d ∧ n / d ≤ n.natAbs := by
  rcases Int.lt_or_le n 0 with h | h
  · have h1 : n / d ≤ 0 := by
      have := Int.ediv_neg_of_neg_of_pos h hd; omega
    have h2 : -(n.natAbs : Int) ≤ n / d := by
      rw [Int.le_ediv_iff_mul_le hd]
      have : -(n.natAbs : Int) = n := by omega
      rw [this]
      have h3 := Int.mul_nonneg (show 0 ≤ -n by omega) (show 0 ≤ d - 1 by omega)
      rw [Int.neg_mul, Int.mul_sub] at h3
      omega
    omega
  · have h1 := Int.ediv_nonneg h (show 0 ≤ d by omega)
    have h2 := Int.ediv_le_self d h
    omega


set_option maxRecDepth 100000 in
theorem ceil_any (n d : Int) (w : World) (hn0 : -2305843009213693952 ≤ n) (hn1 : n ≤ 2305843009213693952) (hd0 : 1 ≤ d) (hd1 : d ≤ 2305843009213693952) :
    Calls Tryd.prog 24 #[frV n d] w fun e w' => e = .returned (.int .i64 (ceilF n d)) ∧ Below w.heap.size w w' := by
  have c1 : ∀ W, _ := fun W => floor_any (-n) d W (by omega) (by omega) (by omega) (by omega)
  have hb := ediv_bd (-n) d (by omega)
  have hc : ceilF n d = -((-n) / d) := rfl
  rw [hc]
  clear hc
  generalize (-n) / d = q at *
  go_enter Tryd.func24, Tryd.ntmps24
  go_wp2_with fail
  refine (c1 _).mono ?_
  rintro e w1 ⟨rfl, hB⟩
  have HB : Hid (Below w.heap.size w w1) := (by (repeat (first | exact Below.refl _ _ | refine bel_drew ?_ | refine bel_alloc ?_ (by first | (simp; done) | (simp; omega)))) : Below w.heap.size w _).trans (hB.mono (by simp))
  clear c1 hB
  go_wp2
  go_ret
  exact ⟨rfl, HB.out⟩

set_option maxRecDepth 100000 in
theorem rceil_any (n d : Int) (w : World) (hn0 : -2305843009213693952 ≤ n) (hn1 : n ≤ 2305843009213693952) (hd0 : 1 ≤ d) (hd1 : d ≤ 2305843009213693952) :
    Calls Tryd.prog 25 #[frV n d] w fun e w' => e = .returned (.int .i64 (ceilF n d)) ∧ Below w.heap.size w w' := by
  have c1 : ∀ W, _ := fun W => rfloor_any (-n) d W (by omega) (by omega) (by omega) (by omega)
  have hb := ediv_bd (-n) d (by omega)
  have hc : ceilF n d = -((-n) / d) := rfl
  rw [hc]
  clear hc
  generalize (-n) / d = q at *
  go_enter Tryd.func25, Tryd.ntmps25
  go_wp2_with fail
  refine (c1 _).mono ?_
  rintro e w1 ⟨rfl, hB⟩
  have HB : Hid (Below w.heap.size w w1) := (by (repeat (first | exact Below.refl _ _ | refine bel_drew ?_ | refine bel_alloc ?_ (by first | (simp; done) | (simp; omega)))) : Below w.heap.size w _).trans (hB.mono (by simp))
  clear c1 hB
  go_wp2
  go_ret
  exact ⟨rfl, HB.out⟩

set_option maxRecDepth 100000 in
theorem round_pos (n d : Int) (w : World) (hn0 : 0 ≤ n) (hn1 : n ≤ 2305843009213693952) (hd0 : 1 ≤ d) (hd1 : d ≤ 2305843009213693952) :
    Calls Tryd.prog 26 #[frV n d] w fun e w' => e = .returned (.int .i64 ((2 * n + d) / (2 * d))) ∧ Below w.heap.size w w' := by
  have hdz : (2 * d == 0) = false := by simpa using (show d ≠ 0 by omega)
  have hdz2 : (d == 0) = false := by simpa using (show d ≠ 0 by omega)
  have hq : (2 * n + d).tdiv (2 * d) = (2 * n + d) / (2 * d) := Int.tdiv_eq_ediv_of_nonneg (by omega)
  have hb := ediv_bd (2 * n + d) (2 * d) (by omega)
  generalize (2 * n + d) / (2 * d) = q at *
  go_enter Tryd.func26, Tryd.ntmps26
  go_wp2
  go_ret
  exact ⟨rfl, by (repeat (first | exact Below.refl _ _ | refine bel_drew ?_ | refine bel_alloc ?_ (by first | (simp; done) | (simp; omega))))⟩

set_option maxRecDepth 100000 in
theorem round_any (n d : Int) (w : World) (hn0 : -2305843009213693952 ≤ n) (hn1 : n ≤ 2305843009213693952) (hd0 : 1 ≤ d) (hd1 : d ≤ 2305843009213693952) :
    Calls Tryd.prog 26 #[frV n d] w fun e w' => e = .returned (.int .i64 (roundF n d)) ∧ Below w.heap.size w w' := by
  by_cases hn : n < 0
  · have c1 : ∀ W, _ := fun W => round_pos (-n) d W (by omega) (by omega) hd0 hd1
    have hb := ediv_bd (2 * (-n) + d) (2 * d) (by omega)
    have hr : roundF n d = -((2 * (-n) + d) / (2 * d)) := by unfold roundF; rw [if_pos hn]
    rw [hr]
    clear hr
    generalize (2 * (-n) + d) / (2 * d) = q at *
    go_enter Tryd.func26, Tryd.ntmps26
    go_wp2_with fail
    refine (c1 _).mono ?_
    rintro e w1 ⟨rfl, hB⟩
    have HB : Hid (Below w.heap.size w w1) := (by (repeat (first | exact Below.refl _ _ | refine bel_drew ?_ | refine bel_alloc ?_ (by first | (simp; done) | (simp; omega)))) : Below w.heap.size w _).trans (hB.mono (by simp))
    clear c1 hB
    go_wp2
    go_ret
    exact ⟨rfl, HB.out⟩
  · have hr : roundF n d = (2 * n + d) / (2 * d) := by unfold roundF; rw [if_neg hn]
    rw [hr]
    exact round_pos n d w (by omega) hn1 hd0 hd1

set_option maxRecDepth 100000 in
theorem rround_pos (n d : Int) (w : World) (hn0 : 0 ≤ n) (hn1 : n ≤ 2305843009213693952) (hd0 : 1 ≤ d) (hd1 : d ≤ 2305843009213693952) :
    Calls Tryd.prog 27 #[frV n d] w fun e w' => e = .returned (.int .i64 ((2 * n + d) / (2 * d))) ∧ Below w.heap.size w w' := by
  have hdz : (2 * d == 0) = false := by simpa using (show d ≠ 0 by omega)
  have hdz2 : (d == 0) = false := by simpa using (show d ≠ 0 by omega)
  have hq : (2 * n + d).tdiv (2 * d) = (2 * n + d) / (2 * d) := Int.tdiv_eq_ediv_of_nonneg (by omega)
  have hb := ediv_bd (2 * n + d) (2 * d) (by omega)
  generalize (2 * n + d) / (2 * d) = q at *
  go_enter Tryd.func27, Tryd.ntmps27
  go_wp2
  go_ret
  exact ⟨rfl, by (repeat (first | exact Below.refl _ _ | refine bel_drew ?_ | refine bel_alloc ?_ (by first | (simp; done) | (simp; omega))))⟩

set_option maxRecDepth 100000 in
theorem rround_any (n d : Int) (w : World) (hn0 : -2305843009213693952 ≤ n) (hn1 : n ≤ 2305843009213693952) (hd0 : 1 ≤ d) (hd1 : d ≤ 2305843009213693952) :
    Calls Tryd.prog 27 #[frV n d] w fun e w' => e = .returned (.int .i64 (roundF n d)) ∧ Below w.heap.size w w' := by
  by_cases hn : n < 0
  · have c1 : ∀ W, _ := fun W => rround_pos (-n) d W (by omega) (by omega) hd0 hd1
    have hb := ediv_bd (2 * (-n) + d) (2 * d) (by omega)
    have hr : roundF n d = -((2 * (-n) + d) / (2 * d)) := by unfold roundF; rw [if_pos hn]
    rw [hr]
    clear hr
    generalize (2 * (-n) + d) / (2 * d) = q at *
    go_enter Tryd.func27, Tryd.ntmps27
    go_wp2_with fail
    refine (c1 _).mono ?_
    rintro e w1 ⟨rfl, hB⟩
    have HB : Hid (Below w.heap.size w w1) := (by (repeat (first | exact Below.refl _ _ | refine bel_drew ?_ | refine bel_alloc ?_ (by first | (simp; done) | (simp; omega)))) : Below w.heap.size w _).trans (hB.mono (by simp))
    clear c1 hB
    go_wp2
    go_ret
    exact ⟨rfl, HB.out⟩
  · have hr : roundF n d = (2 * n + d) / (2 * d) := by unfold roundF; rw [if_neg hn]
    rw [hr]
    exact rround_pos n d w (by omega) hn1 hd0 hd1

end Go.Proofs.YtckedklopgnloaaDoor
