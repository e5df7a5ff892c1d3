/- Fractions, plain: the simplest of a range. No program here. -/
import Derived.Test.YtckedklopgnloaaDoorFracMath2
import Derived.Test.YtckedklopgnloaaDoorFrac9
namespace Go.Proofs.YtckedklopgnloaaDoor

theorem near_facts {ln ld hn hd n d : Int} {ok : Bool} (hl : Val ln ld) (hh : Val hn hd) (hle : ln * hd ≤ hn * ld) (h : NearR ln ld hn hd n d ok) :
    ok = true ∧ Val n d ∧ ln * d ≤ n * ld ∧ n * hd ≤ hn * d ∧ ∀ x y : Int, Val x y → ln * y ≤ x * ld → x * hd ≤ hn * y → d < y ∨ (y = d ∧ n.natAbs ≤ x.natAbs) := by
  obtain ⟨l1, l2, l3, l4, _⟩ := hl
  obtain ⟨k1, k2, k3, k4, _⟩ := hh
  rcases h with ⟨a, _⟩ | ⟨_, rfl, b⟩
  · omega
  refine ⟨rfl, ?_⟩
  rcases b with ⟨b1, b2, rfl, rfl⟩ | ⟨b1, hS⟩ | ⟨b1, hS⟩
  · refine ⟨⟨by omega, by omega, by omega, by omega, by decide⟩, by omega, by omega, fun x y hv _ _ => ?_⟩
    have := hv.1
    rcases Int.lt_or_le 1 y with h | h
    · exact .inl h
    · exact .inr ⟨by omega, by omega⟩
  · obtain ⟨c1, c2, c3, c4, c5, c6⟩ := hS.bounds (by omega)
    obtain ⟨w1, w2⟩ := hS.within
    have hc := hS.coprime
    have hln : ln < 0 := by
      rcases Int.lt_or_le ln 0 with h | h
      · exact h
      · have e1 := Int.mul_nonneg h (show 0 ≤ hd by omega)
        have e2 := Int.mul_neg_of_neg_of_pos b1 (show 0 < ld by omega)
        omega
    refine ⟨⟨by omega, by omega, by omega, by omega, by have := hc; unfold Int.gcd at this; rwa [Int.natAbs_neg] at this⟩, by rw [Int.neg_mul, Int.neg_mul] at w2; omega, by rw [Int.neg_mul, Int.neg_mul] at w1; omega, fun x y hv g1 g2 => ?_⟩
    have hy := hv.1
    obtain ⟨m1, m2⟩ := hS.least (by omega) (-x) y (by omega) (by rw [Int.neg_mul, Int.neg_mul]; omega) (by rw [Int.neg_mul, Int.neg_mul]; omega)
    rcases Int.lt_or_le d y with h | h
    · exact .inl h
    · exact .inr ⟨by omega, by omega⟩
  · obtain ⟨c1, c2, c3, c4, c5, c6⟩ := hS.bounds b1
    obtain ⟨w1, w2⟩ := hS.within
    have hc := hS.coprime
    refine ⟨⟨by omega, by omega, by omega, by omega, hc⟩, w1, w2, fun x y hv g1 g2 => ?_⟩
    have hy := hv.1
    obtain ⟨m1, m2⟩ := hS.least b1 x y (by omega) g1 g2
    rcases Int.lt_or_le d y with h | h
    · exact .inl h
    · exact .inr ⟨by omega, by omega⟩

end Go.Proofs.YtckedklopgnloaaDoor
