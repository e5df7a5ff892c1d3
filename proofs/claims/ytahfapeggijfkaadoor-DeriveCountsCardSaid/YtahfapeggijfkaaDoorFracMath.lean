/- Fractions, plain: what Make answers, valid fractions, the simplest fraction of a range. No program here. -/
import Derived.Test.YtahfapeggijfkaaDoorRows
namespace Go.Proofs.YtahfapeggijfkaaDoor

/-- what Make answers, of a quotient -/
def ofQ (q : Rat) : (Int × Int) × Int := if 2147483647 < q.num.natAbs ∨ 2147483647 < q.den then ((0, 0), 10) else ((q.num, (q.den : Int)), 0)
/-- what Make answers -/
def mkF (n d : Int) : (Int × Int) × Int := if d = 0 then ((0, 0), 11) else ofQ (Rat.divInt n d)

/-- a valid fraction -/
def Val (n d : Int) : Prop := 1 ≤ d ∧ d ≤ 2147483647 ∧ -2147483647 ≤ n ∧ n ≤ 2147483647 ∧ Nat.gcd n.natAbs d.natAbs = 1

theorem val_q {n d : Int} (h : Val n d) : (Rat.divInt n d).num = n ∧ ((Rat.divInt n d).den : Int) = d := by
  obtain ⟨h1, h2, h3, h4, h5⟩ := h
  have hg : Int.gcd d n = 1 := by unfold Int.gcd; rw [Nat.gcd_comm]; exact h5
  constructor
  · rw [Rat.num_divInt, Int.sign_eq_one_of_pos (by omega), hg]; simp
  · rw [Rat.den_divInt, if_neg (by omega), hg]; simp; omega
theorem val_of_q (q : Rat) (h1 : q.num.natAbs ≤ 2147483647) (h2 : q.den ≤ 2147483647) : Val q.num q.den := by
  have := q.den_nz
  refine ⟨by omega, by omega, by omega, by omega, ?_⟩
  simpa using q.reduced
theorem mkF_ok {n d a b : Int} (h : mkF n d = ((a, b), 0)) : d ≠ 0 ∧ Val a b ∧ Rat.divInt a b = Rat.divInt n d := by
  unfold mkF at h
  by_cases hd : d = 0
  · rw [if_pos hd] at h; cases h
  · rw [if_neg hd] at h
    unfold ofQ at h
    split at h
    · cases h
    · rename_i hb
      injection h with h3 h4
      injection h3 with h3 h5
      subst h3 h5
      refine ⟨hd, val_of_q _ (by omega) (by omega), ?_⟩
      exact Rat.num_divInt_den _
theorem mkF_code (n d : Int) : (mkF n d).2 = 0 ∨ (mkF n d).2 = 10 ∨ (mkF n d).2 = 11 := by
  unfold mkF ofQ
  repeat' split
  all_goals simp
theorem mkF_bad {n d : Int} (h : (mkF n d).2 ≠ 0) : (mkF n d).1 = (0, 0) := by
  unfold mkF ofQ at *
  repeat' split
  all_goals simp_all
theorem mkF_val {n d : Int} (h : Val n d) : mkF n d = ((n, d), 0) := by
  obtain ⟨h1, h2⟩ := val_q h
  obtain ⟨g1, g2, g3, g4, g5⟩ := h
  unfold mkF ofQ
  rw [if_neg (by omega), if_neg (by omega), h1, h2]
theorem mkF_same {n d n' d' : Int} (h1 : d ≠ 0) (h2 : d' ≠ 0) (h : Rat.divInt n d = Rat.divInt n' d') : mkF n d = mkF n' d' := by
  unfold mkF; rw [if_neg h1, if_neg h2, h]

theorem q_parts (n d : Int) (hd : d ≠ 0) : (Rat.divInt n d).num = (if (n < 0) ≠ (d < 0) then -((n.natAbs / Nat.gcd n.natAbs d.natAbs : Nat) : Int) else ((n.natAbs / Nat.gcd n.natAbs d.natAbs : Nat) : Int)) ∧
    (Rat.divInt n d).den = d.natAbs / Nat.gcd n.natAbs d.natAbs := by
  have hg : Int.gcd d n = Nat.gcd n.natAbs d.natAbs := by unfold Int.gcd; rw [Nat.gcd_comm]
  have hgd : (Nat.gcd n.natAbs d.natAbs : Int) ∣ n := Int.ofNat_dvd_left.2 (Nat.gcd_dvd_left _ _)
  have hgp : 0 < Nat.gcd n.natAbs d.natAbs := Nat.gcd_pos_of_pos_right _ (by omega)
  constructor
  · rw [Rat.num_divInt, hg]
    generalize hG : Nat.gcd n.natAbs d.natAbs = g at *
    obtain ⟨k, rfl⟩ := hgd
    have hk : ((g : Int) * k).natAbs / g = k.natAbs := by
      rw [Int.natAbs_mul]; simp [hgp]
    rw [hk]
    have hg0 : (g : Int) ≠ 0 := by omega
    have hs : ((g : Int) * k < 0) ↔ k < 0 := by
      constructor
      · intro h
        rcases Int.lt_or_le k 0 with h1 | h1
        · exact h1
        · have := Int.mul_nonneg (show (0 : Int) ≤ g by omega) h1; omega
      · intro h; exact Int.mul_neg_of_pos_of_neg (by omega) h
    rw [show d.sign * (↑g * k) / (g : Int) = d.sign * k by rw [Int.mul_left_comm]; exact Int.mul_ediv_cancel_left _ hg0]
    rcases Int.lt_trichotomy d 0 with h | h | h
    · rw [Int.sign_eq_neg_one_of_neg h]
      by_cases hk0 : k < 0
      · rw [if_neg (by simp [hs, hk0, h])]; omega
      · rw [if_pos (by simp [hs, hk0, h])]; omega
    · exact absurd h hd
    · rw [Int.sign_eq_one_of_pos h]
      by_cases hk0 : k < 0
      · rw [if_pos (by simp [hs, hk0]; omega)]; omega
      · rw [if_neg (by simp [hs, hk0]; omega)]; omega
  · rw [Rat.den_divInt, if_neg hd, hg]
theorem mkF_zero (n : Int) : mkF n 0 = ((0, 0), 11) := rfl
theorem mkF_wide {n d : Int} (hd : d ≠ 0) (h : 2147483647 < n.natAbs / Nat.gcd n.natAbs d.natAbs ∨ 2147483647 < d.natAbs / Nat.gcd n.natAbs d.natAbs) : mkF n d = ((0, 0), 10) := by
  obtain ⟨h1, h2⟩ := q_parts n d hd
  unfold mkF ofQ
  rw [if_neg hd, if_pos]
  rw [h1, h2]
  rcases h with h | h
  · left; split <;> omega
  · right; exact h
theorem mkF_fits {n d : Int} (hd : d ≠ 0) (h1 : n.natAbs / Nat.gcd n.natAbs d.natAbs ≤ 2147483647) (h2 : d.natAbs / Nat.gcd n.natAbs d.natAbs ≤ 2147483647) :
    mkF n d = ((if (n < 0) ≠ (d < 0) then -((n.natAbs / Nat.gcd n.natAbs d.natAbs : Nat) : Int) else ((n.natAbs / Nat.gcd n.natAbs d.natAbs : Nat) : Int), ((d.natAbs / Nat.gcd n.natAbs d.natAbs : Nat) : Int)), 0) := by
  obtain ⟨g1, g2⟩ := q_parts n d hd
  unfold mkF ofQ
  rw [if_neg hd, if_neg, g1, g2]
  rw [g1, g2]
  generalize n.natAbs / Nat.gcd n.natAbs d.natAbs = x at *
  split
  · rw [Int.natAbs_neg, Int.natAbs_natCast]; omega
  · rw [Int.natAbs_natCast]; omega
/-- the simplest fraction of a range above 0 -/
inductive Smp : Int → Int → Int → Int → Int → Int → Prop
  | whole {ln ld hn hd c : Int} (g1 : 0 < ld) (g2 : 0 < hd) (h1 : (c - 1) * ld < ln) (h2 : ln ≤ c * ld) (h3 : c * hd ≤ hn) : Smp ln ld hn hd c 1
  | deep {ln ld hn hd w p q : Int} (g1 : 0 < ld) (g2 : 0 < hd) (g3 : 0 < hn - w * hd) (h1 : w * ld < ln) (h2 : ln < (w + 1) * ld) (h3 : hn < (w + 1) * hd) (h : Smp hd (hn - w * hd) ld (ln - w * ld) p q) : Smp ln ld hn hd (w * p + q) p

theorem lt_of_mul {a b k : Int} (hk : 0 < k) (h : a * k < b * k) : a < b := Int.lt_of_mul_lt_mul_right h (by omega)
theorem le_mul_self {c k : Int} (hc : 0 ≤ c) (hk : 1 ≤ k) : c ≤ c * k := by
  have := Int.mul_le_mul_of_nonneg_left hk hc; simpa using this

theorem Smp.bounds {ln ld hn hd p q : Int} (h : Smp ln ld hn hd p q) : 0 < ln → 1 ≤ p ∧ 1 ≤ q ∧ p ≤ ln ∧ p ≤ hn ∧ q ≤ ld ∧ q ≤ hd := by
  induction h with
  | @whole ln ld hn hd c g1 g2 h1 h2 h3 =>
    intro h0
    have hc : 0 < c := lt_of_mul g1 (by omega)
    have a1 := le_mul_self (show 0 ≤ c - 1 by omega) (show 1 ≤ ld by omega)
    have a2 := le_mul_self (show 0 ≤ c by omega) (show 1 ≤ hd by omega)
    omega
  | @deep ln ld hn hd w p q g1 g2 g3 h1 h2 h3 h ih =>
    intro h0
    obtain ⟨i1, i2, i3, i4, i5, i6⟩ := ih g2
    have hw : 0 < w + 1 := lt_of_mul g1 (by omega)
    have hw : 0 ≤ w := by omega
    have b1 := Int.mul_le_mul_of_nonneg_left i3 hw
    have b2 := Int.mul_le_mul_of_nonneg_left i4 hw
    have b3 := Int.mul_nonneg hw (show 0 ≤ p by omega)
    omega
theorem Smp.within {ln ld hn hd p q : Int} (h : Smp ln ld hn hd p q) : ln * q ≤ p * ld ∧ p * hd ≤ hn * q := by
  induction h with
  | @whole ln ld hn hd c g1 g2 h1 h2 h3 => omega
  | @deep ln ld hn hd w p q g1 g2 g3 h1 h2 h3 h ih => grind
theorem Smp.least {ln ld hn hd p q : Int} (h : Smp ln ld hn hd p q) : 0 < ln → ∀ x y : Int, 0 < y → ln * y ≤ x * ld → x * hd ≤ hn * y → p ≤ x ∧ q ≤ y := by
  induction h with
  | @whole ln ld hn hd c g1 g2 h1 h2 h3 =>
    intro h0 x y hy a1 a2
    have hc : 0 < c := lt_of_mul g1 (by omega)
    have b1 := Int.mul_lt_mul_of_pos_right h1 hy
    have b2 : (c - 1) * y < x := lt_of_mul g1 (by grind)
    have b3 := le_mul_self (show 0 ≤ c - 1 by omega) (show 1 ≤ y by omega)
    omega
  | @deep ln ld hn hd w p q g1 g2 g3 h1 h2 h3 h ih =>
    intro h0 x y hy a1 a2
    have hw : 0 < w + 1 := lt_of_mul g1 (by omega)
    have hw : 0 ≤ w := by omega
    have b1 := Int.mul_lt_mul_of_pos_right h1 hy
    have b2 : w * y < x := lt_of_mul g1 (by grind)
    obtain ⟨i1, i2⟩ := ih g2 y (x - w * y) (by omega) (by grind) (by grind)
    have b3 := Int.mul_le_mul_of_nonneg_left i1 hw
    omega
theorem Smp.coprime {ln ld hn hd p q : Int} (h : Smp ln ld hn hd p q) : Int.gcd p q = 1 := by
  induction h with
  | whole => simp
  | @deep ln ld hn hd w p q g1 g2 g3 h1 h2 h3 h ih =>
    rw [Int.gcd_comm, Int.mul_comm, Int.gcd_mul_left_add_right]
    exact ih
theorem Smp.only {ln ld hn hd p q : Int} (h : Smp ln ld hn hd p q) : ∀ p' q', Smp ln ld hn hd p' q' → p' = p ∧ q' = q := by
  induction h with
  | @whole ln ld hn hd c g1 g2 h1 h2 h3 =>
    intro p' q' h'
    cases h' with
    | whole g1' g2' h1' h2' h3' =>
      have a := lt_of_mul g1 (show (c - 1) * ld < p' * ld by omega)
      have b := lt_of_mul g1 (show (p' - 1) * ld < c * ld by omega)
      exact ⟨by omega, rfl⟩
    | @deep _ _ _ _ w _ _ g1' g2' g3' h1' h2' h3' h' =>
      exfalso
      have a := lt_of_mul g1 (show w * ld < c * ld by omega)
      have b := Int.mul_le_mul_of_nonneg_right (show w + 1 ≤ c by omega) (show 0 ≤ hd by omega)
      omega
  | @deep ln ld hn hd w p q g1 g2 g3 h1 h2 h3 h ih =>
    intro p' q' h'
    cases h' with
    | @whole _ _ _ _ c g1' g2' h1' h2' h3' =>
      exfalso
      have a := lt_of_mul g1 (show w * ld < p' * ld by omega)
      have b := Int.mul_le_mul_of_nonneg_right (show w + 1 ≤ p' by omega) (show 0 ≤ hd by omega)
      omega
    | @deep _ _ _ _ w' p2 q2 g1' g2' g3' h1' h2' h3' h' =>
      have a := lt_of_mul g1 (show w * ld < (w' + 1) * ld by omega)
      have b := lt_of_mul g1 (show w' * ld < (w + 1) * ld by omega)
      obtain rfl : w' = w := by omega
      obtain ⟨rfl, rfl⟩ := ih _ _ h'
      exact ⟨rfl, rfl⟩

/-- the fraction that terms and a last one make -/
def cont : List Int → Int → Int → Int × Int
  | [], p, q => (p, q)
  | x :: r, p, q => (x * (cont r p q).1 + (cont r p q).2, (cont r p q).1)
theorem cont_snoc (l : List Int) (x p q : Int) : cont (l ++ [x]) p q = cont l (x * p + q) p := by
  induction l with
  | nil => rfl
  | cons y r ih => simp [cont, ih]
theorem cont_grows (l : List Int) (hl : ∀ x ∈ l, 0 ≤ x) (p q : Int) (hp : 0 ≤ p) (hq : 0 ≤ q) : 0 ≤ (cont l p q).1 ∧ 0 ≤ (cont l p q).2 ∧ ∀ M, (cont l p q).1 ≤ M → (cont l p q).2 ≤ M → p ≤ M ∧ q ≤ M := by
  induction l with
  | nil => exact ⟨hp, hq, fun M h1 h2 => ⟨h1, h2⟩⟩
  | cons x r ih =>
    obtain ⟨i1, i2, i3⟩ := ih (fun y hy => hl y (List.mem_cons_of_mem _ hy))
    have hx : 0 ≤ x := hl x List.mem_cons_self
    have hm := Int.mul_nonneg hx i1
    refine ⟨by show 0 ≤ x * _ + _; omega, i1, fun M h1 h2 => i3 M h2 ?_⟩
    have : x * (cont r p q).1 + (cont r p q).2 ≤ M := h1
    omega

end Go.Proofs.YtahfapeggijfkaaDoor
