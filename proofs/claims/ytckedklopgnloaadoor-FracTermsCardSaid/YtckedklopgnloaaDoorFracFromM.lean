/- The fraction of a continued fraction, plain. No program here. -/
import Derived.Test.YtckedklopgnloaaDoorFracMath2
import Derived.Test.YtckedklopgnloaaDoorFracTerms1
namespace Go.Proofs.YtckedklopgnloaaDoor

/-- too great for a term, by the document -/
def outT (x : Int) : Prop := 4294967296 < x ∨ x < -4294967296
instance (x : Int) : Decidable (outT x) := inferInstanceAs (Decidable (_ ∨ _))
/-- what the terms from some place on are together -/
def fromR : List Int → (Int × Int) × Int
  | [] => ((1, 0), 0)
  | x :: r => if (fromR r).2 = 0 then (if outT x then ((0, 0), 10) else mkF (x * (fromR r).1.1 + (fromR r).1.2) (fromR r).1.1) else ((0, 0), (fromR r).2)
/-- what From answers -/
def fromF (l : List Int) : (Int × Int) × Int := if l = [] then ((0, 0), 11) else if l.tail.all (fun x => decide (1 ≤ x)) then fromR l else ((0, 0), 11)

theorem fromR_cons (x : Int) (r : List Int) : fromR (x :: r) = if (fromR r).2 = 0 then (if outT x then ((0, 0), 10) else mkF (x * (fromR r).1.1 + (fromR r).1.2) (fromR r).1.1) else ((0, 0), (fromR r).2) := rfl
/-- a valid fraction, or the one that stands behind the last term -/
def ValE (p q : Int) : Prop := (p = 1 ∧ q = 0) ∨ Val p q
theorem fromR_val (r : List Int) (h : (fromR r).2 = 0) : ValE (fromR r).1.1 (fromR r).1.2 := by
  cases r with
  | nil => exact .inl ⟨rfl, rfl⟩
  | cons x r =>
    rw [fromR_cons] at h ⊢
    by_cases h1 : (fromR r).2 = 0
    · rw [if_pos h1] at h ⊢
      by_cases h2 : outT x
      · rw [if_pos h2] at h; cases h
      · rw [if_neg h2] at h ⊢
        obtain ⟨⟨⟨a, b⟩, c⟩, hm⟩ : ∃ s, mkF (x * (fromR r).1.1 + (fromR r).1.2) (fromR r).1.1 = s := ⟨_, rfl⟩
        rw [hm] at h ⊢
        simp only at h
        subst h
        exact .inr (mkF_ok hm).2.1
    · rw [if_neg h1] at h; exact absurd h h1
/-- with terms of at least 1 it is above 0 -/
theorem fromR_pos (r : List Int) (h : (fromR r).2 = 0) (hr : ∀ x ∈ r, 1 ≤ x) : 1 ≤ (fromR r).1.1 := by
  induction r with
  | nil => exact Int.le_refl _
  | cons x r ih =>
    rw [fromR_cons] at h ⊢
    by_cases h1 : (fromR r).2 = 0
    · have hp := ih h1 (fun y hy => hr y (List.mem_cons_of_mem _ hy))
      have hv := fromR_val r h1
      have hx := hr x (List.mem_cons_self ..)
      rw [if_pos h1] at h ⊢
      by_cases h2 : outT x
      · rw [if_pos h2] at h; cases h
      · rw [if_neg h2] at h ⊢
        generalize (fromR r).1.1 = p at *
        generalize (fromR r).1.2 = q at *
        have hq : 0 ≤ q := by
          rcases hv with ⟨_, h⟩ | h
          · omega
          · have := h.1; omega
        obtain ⟨⟨⟨a, b⟩, c⟩, hm⟩ : ∃ s, mkF (x * p + q) p = s := ⟨_, rfl⟩
        rw [hm] at h ⊢
        simp only at h
        subst h
        obtain ⟨hva, _, hc⟩ := mk_cross hm
        show 1 ≤ a
        have e1 := le_mul_self (show 0 ≤ p by omega) hx
        rw [Int.mul_comm] at e1
        have e2 := Int.mul_pos (show 0 < x * p + q by omega) (show 0 < b by have := hva.1; omega)
        rcases Int.lt_or_le 0 a with h3 | h3
        · omega
        · have := Int.mul_nonneg_of_nonpos_of_nonpos h3 (show -p ≤ 0 by omega)
          rw [Int.mul_neg] at this; omega
    · rw [if_neg h1] at h; exact absurd h h1
/-- what is too great a little earlier is too great altogether -/
theorem wide_mk {x p q : Int} (hv : ValE p q) (hp : 1 ≤ p) (hx : 4294967294 < x ∨ x < -4294967294) : mkF (x * p + q) p = ((0, 0), 10) := by
  have hg : Nat.gcd (x * p + q).natAbs p.natAbs = 1 := by
    have e : Int.gcd (x * p + q) p = Int.gcd q p := by rw [Int.gcd_comm, Int.mul_comm x p, Int.gcd_mul_left_add_right, Int.gcd_comm]
    unfold Int.gcd at e
    rw [e]
    rcases hv with ⟨h1, h2⟩ | h
    · subst h1 h2; rfl
    · rw [Nat.gcd_comm]; exact h.2.2.2.2
  have hq : 0 ≤ q ∧ q ≤ 2147483647 := by
    rcases hv with ⟨_, h⟩ | h
    · omega
    · have := h.1; have := h.2.1; omega
  refine mkF_wide (by omega) (.inl ?_)
  rw [hg, Nat.div_one]
  rcases hx with h | h
  · have e1 := le_mul_self (show 0 ≤ x by omega) hp
    omega
  · have e1 := le_mul_self (show 0 ≤ -x by omega) hp
    rw [Int.neg_mul] at e1
    omega
theorem outT_mk {x p q : Int} (hv : ValE p q) (hp : 1 ≤ p) : (if outT x then ((0, 0), 10) else mkF (x * p + q) p) = if 4294967294 < x ∨ x < -4294967294 then ((0, 0), 10) else mkF (x * p + q) p := by
  by_cases h1 : outT x
  · rw [if_pos h1, if_pos (by unfold outT at h1; omega)]
  · rw [if_neg h1]
    by_cases h2 : 4294967294 < x ∨ x < -4294967294
    · rw [if_pos h2]; exact wide_mk hv hp h2
    · rw [if_neg h2]
/-- a fraction's terms, and back -/
theorem from_terms (n d : Int) (h : Val n d) : fromR (termsI n d) = ((n, d), 0) ∧ ∀ x ∈ (termsI n d).tail, 1 ≤ x := by
  obtain ⟨k, hk⟩ : ∃ k : Nat, d.toNat ≤ k := ⟨_, Nat.le_refl _⟩
  induction k generalizing n d with
  | zero => have := h.1; omega
  | succ k ih =>
    obtain ⟨h1, h2, h3, h4, h5⟩ := h
    rw [termsI_step n d (by omega)]
    have e1 := Int.ediv_mul_le n (show d ≠ 0 by omega)
    have e2 := Int.lt_ediv_add_one_mul_self n (show 0 < d by omega)
    rw [Int.add_mul] at e2
    have hlo : -2147483648 ≤ n / d := by
      rcases Int.lt_or_le (n / d) (-2147483648) with h | h
      · have := Int.mul_le_mul_of_nonneg_right (show n / d + 1 ≤ -2147483648 by omega) (show 0 ≤ d by omega)
        rw [Int.add_mul] at this; omega
      · exact h
    have hhi : n / d ≤ 2147483647 := by
      rcases Int.lt_or_le 2147483647 (n / d) with h | h
      · have := Int.mul_le_mul_of_nonneg_right (show 2147483648 ≤ n / d by omega) (show 0 ≤ d by omega)
        omega
      · exact h
    have hno : ¬ outT (n / d) := by unfold outT; omega
    by_cases hr : n - n / d * d = 0
    · rw [if_pos hr]
      refine ⟨?_, by simp⟩
      have hd : d = 1 := by
        have hdv : d ∣ n := ⟨n / d, by rw [Int.mul_comm]; omega⟩
        have : Nat.gcd n.natAbs d.natAbs = d.natAbs := Nat.gcd_eq_right (Int.natAbs_dvd_natAbs.2 hdv)
        omega
      subst hd
      rw [fromR_cons]
      show (if (0 : Int) = 0 then (if outT (n / 1) then _ else mkF (n / 1 * 1 + 0) 1) else _) = _
      rw [if_pos rfl, if_neg hno, show n / 1 * 1 + 0 = n by omega]
      exact mkF_val ⟨h1, h2, h3, h4, h5⟩
    · rw [if_neg hr]
      have hv : Val d (n - n / d * d) := by
        refine ⟨by omega, by omega, by omega, by omega, ?_⟩
        have : Int.gcd d (n - n / d * d) = Int.gcd d n := by
          rw [show n - n / d * d = n + (-(n / d)) * d by rw [Int.neg_mul]; omega, Int.gcd_add_mul_right_right]
        unfold Int.gcd at this
        rw [this, Nat.gcd_comm]; exact h5
      obtain ⟨i1, i2⟩ := ih d (n - n / d * d) hv (by omega)
      refine ⟨?_, ?_⟩
      · rw [fromR_cons, i1]
        show (if (0 : Int) = 0 then (if outT (n / d) then _ else mkF (n / d * d + (n - n / d * d)) d) else _) = _
        rw [if_pos rfl, if_neg hno, show n / d * d + (n - n / d * d) = n by omega]
        exact mkF_val ⟨h1, h2, h3, h4, h5⟩
      · intro x hx
        simp only [List.tail_cons] at hx
        rw [termsI_step d _ (by omega)] at hx i2
        rcases List.mem_cons.1 hx with rfl | hx
        · have g1 := Int.lt_ediv_add_one_mul_self d (show 0 < n - n / d * d by omega)
          have : 0 < d / (n - n / d * d) := by
            rcases Int.lt_or_le 0 (d / (n - n / d * d)) with h | h
            · exact h
            · have := Int.mul_le_mul_of_nonneg_right (show d / (n - n / d * d) + 1 ≤ 1 by omega) (show 0 ≤ n - n / d * d by omega)
              omega
          omega
        · exact i2 x hx

end Go.Proofs.YtckedklopgnloaaDoor
