/- Fractions, plain: orders, sums, products. No program here. -/
import Derived.Test.YtahfapeggijfkaaDoorFrac5
namespace Go.Proofs.YtahfapeggijfkaaDoor

theorem q_eq {a b c d : Int} (hb : b ≠ 0) (hd : d ≠ 0) : Rat.divInt a b = Rat.divInt c d ↔ a * d = c * b := Rat.divInt_eq_divInt_iff hb hd
theorem val_eq {a b c d : Int} (h1 : Val a b) (h2 : Val c d) (h : a * d = c * b) : a = c ∧ b = d := by
  have e := (q_eq (by have := h1.1; omega) (by have := h2.1; omega)).2 h
  obtain ⟨x1, x2⟩ := val_q h1
  obtain ⟨y1, y2⟩ := val_q h2
  rw [e] at x1 x2
  exact ⟨x1.symm.trans y1, x2.symm.trans y2⟩
theorem mk_cross {n d a b : Int} (h : mkF n d = ((a, b), 0)) : Val a b ∧ d ≠ 0 ∧ a * d = n * b := by
  obtain ⟨h1, h2, h3⟩ := mkF_ok h
  exact ⟨h2, h1, (q_eq (by have := h2.1; omega) h1).1 h3⟩

theorem cmp3 (an ad bn bd : Int) : (an * bd < bn * ad ∧ cmpF an ad bn bd = -1 ∧ cmpF bn bd an ad = 1) ∨ (an * bd = bn * ad ∧ cmpF an ad bn bd = 0 ∧ cmpF bn bd an ad = 0) ∨ (bn * ad < an * bd ∧ cmpF an ad bn bd = 1 ∧ cmpF bn bd an ad = -1) := by
  unfold cmpF
  rcases Int.lt_trichotomy (an * bd) (bn * ad) with h | h | h
  · exact .inl ⟨h, by rw [if_pos h], by rw [if_neg (by omega), if_pos h]⟩
  · exact .inr (.inl ⟨h, by rw [if_neg (by omega), if_neg (by omega)], by rw [if_neg (by omega), if_neg (by omega)]⟩)
  · exact .inr (.inr ⟨h, by rw [if_neg (by omega), if_pos h], by rw [if_pos h]⟩)
theorem cmp_le {an ad bn bd : Int} (h : an * bd ≤ bn * ad) : cmpF an ad bn bd ≤ 0 := by
  unfold cmpF; split
  · omega
  · rw [if_neg (by omega)]; omega
theorem cmp_ge {an ad bn bd : Int} (h : bn * ad ≤ an * bd) : 0 ≤ cmpF an ad bn bd := by
  unfold cmpF; rw [if_neg (by omega)]; split <;> omega
theorem cmp_le_iff {an ad bn bd : Int} : cmpF an ad bn bd ≤ 0 ↔ an * bd ≤ bn * ad := by
  rcases cmp3 an ad bn bd with ⟨h, e, _⟩ | ⟨h, e, _⟩ | ⟨h, e, _⟩ <;> omega
theorem cmp_ge_iff {an ad bn bd : Int} : 0 ≤ cmpF an ad bn bd ↔ bn * ad ≤ an * bd := by
  rcases cmp3 an ad bn bd with ⟨h, e, _⟩ | ⟨h, e, _⟩ | ⟨h, e, _⟩ <;> omega
theorem le_trans_q {an ad bn bd cn cd : Int} (ha : 0 < ad) (hb : 0 < bd) (hc : 0 < cd) (h1 : an * bd ≤ bn * ad) (h2 : bn * cd ≤ cn * bd) : an * cd ≤ cn * ad := by
  have g1 := Int.mul_le_mul_of_nonneg_right h1 (show 0 ≤ cd by omega)
  have g2 := Int.mul_le_mul_of_nonneg_right h2 (show 0 ≤ ad by omega)
  refine Int.le_of_mul_le_mul_right (a := bd) ?_ hb
  have e1 : an * cd * bd = an * bd * cd := by grind
  have e2 : bn * ad * cd = bn * cd * ad := by grind
  have e3 : cn * bd * ad = cn * ad * bd := by grind
  omega
theorem sign_of {X Y K M : Int} (hK : 0 < K) (hM : 0 < M) (h : X * K = Y * M) : (X < 0 ↔ Y < 0) ∧ (X = 0 ↔ Y = 0) ∧ (0 < X ↔ 0 < Y) := by
  have pos : ∀ {A B : Int}, 0 < B → (0 < A ↔ 0 < A * B) := fun {A B} hB => ⟨fun h => Int.mul_pos h hB, fun h => by
    rcases Int.lt_or_le 0 A with h2 | h2
    · exact h2
    · have := Int.mul_le_mul_of_nonneg_right h2 (show 0 ≤ B by omega); omega⟩
  have neg : ∀ {A B : Int}, 0 < B → (A < 0 ↔ A * B < 0) := fun {A B} hB => ⟨fun h => Int.mul_neg_of_neg_of_pos h hB, fun h => by
    rcases Int.lt_or_le A 0 with h2 | h2
    · exact h2
    · have := Int.mul_nonneg h2 (show 0 ≤ B by omega); omega⟩
  have p1 := pos (A := X) hK
  have p2 := pos (A := Y) hM
  have n1 := neg (A := X) hK
  have n2 := neg (A := Y) hM
  rw [h] at p1 n1
  refine ⟨by rw [n1, n2], ?_, by rw [p1, p2]⟩
  constructor
  · intro hx; omega
  · intro hy; omega
/-- the difference's sign -/
theorem sub_sign {an ad bn bd sn sd : Int} (ha : 0 < ad) (hb : 0 < bd) (h : mkF (an * bd - bn * ad) (ad * bd) = ((sn, sd), 0)) : (sn < 0 ↔ an * bd < bn * ad) ∧ (sn = 0 ↔ an * bd = bn * ad) ∧ (0 < sn ↔ bn * ad < an * bd) := by
  obtain ⟨hv, _, hc⟩ := mk_cross h
  obtain ⟨h1, h2, h3⟩ := sign_of (X := sn) (Y := an * bd - bn * ad) (Int.mul_pos ha hb) (show 0 < sd by have := hv.1; omega) hc
  exact ⟨by rw [h1]; omega, by rw [h2]; omega, by rw [h3]; omega⟩
/-- a sum keeps the order -/
theorem add_cmp {an ad bn bd cn cd sn sd tn td : Int} (ha : 0 < ad) (hb : 0 < bd) (hc : 0 < cd) (h1 : mkF (an * cd + cn * ad) (ad * cd) = ((sn, sd), 0)) (h2 : mkF (bn * cd + cn * bd) (bd * cd) = ((tn, td), 0)) :
    cmpF sn sd tn td = cmpF an ad bn bd := by
  obtain ⟨v1, _, c1⟩ := mk_cross h1
  obtain ⟨v2, _, c2⟩ := mk_cross h2
  have hs : 0 < sd := by have := v1.1; omega
  have ht : 0 < td := by have := v2.1; omega
  have key : (sn * td - tn * sd) * ((ad * cd) * (bd * cd)) = (an * bd - bn * ad) * ((sd * td) * (cd * cd)) := by
    have e1 : (sn * td - tn * sd) * ((ad * cd) * (bd * cd)) = (sn * (ad * cd)) * (td * (bd * cd)) - (tn * (bd * cd)) * (sd * (ad * cd)) := by grind
    rw [e1, c1, c2]; grind
  obtain ⟨g1, g2, g3⟩ := sign_of (Int.mul_pos (Int.mul_pos ha hc) (Int.mul_pos hb hc)) (Int.mul_pos (Int.mul_pos hs ht) (Int.mul_pos hc hc)) key
  rcases cmp3 sn sd tn td with ⟨h, e, _⟩ | ⟨h, e, _⟩ | ⟨h, e, _⟩ <;> rcases cmp3 an ad bn bd with ⟨h', e', _⟩ | ⟨h', e', _⟩ | ⟨h', e', _⟩ <;> first | (exfalso; omega) | (rw [e, e'])

/-! sums and products -/
theorem q_add {a b c d : Int} (hb : b ≠ 0) (hd : d ≠ 0) : Rat.divInt (a * d + c * b) (b * d) = Rat.divInt a b + Rat.divInt c d := (Rat.divInt_add_divInt a c hb hd).symm
theorem q_mul (a b c d : Int) : Rat.divInt (a * c) (b * d) = Rat.divInt a b * Rat.divInt c d := (Rat.divInt_mul_divInt a c).symm
theorem q_sub {a b c d : Int} (hb : b ≠ 0) (hd : d ≠ 0) : Rat.divInt (a * d - c * b) (b * d) = Rat.divInt a b - Rat.divInt c d := (Rat.divInt_sub_divInt a c hb hd).symm
theorem add_comm_mk (an ad bn bd : Int) : mkF (an * bd + bn * ad) (ad * bd) = mkF (bn * ad + an * bd) (bd * ad) := by rw [Int.add_comm, Int.mul_comm ad bd]
theorem mul_ne {a b : Int} (h1 : a ≠ 0) (h2 : b ≠ 0) : a * b ≠ 0 := Int.mul_ne_zero h1 h2
theorem add_assoc_mk {an ad bn bd cn cd xn xd yn yd : Int} (ha : ad ≠ 0) (hb : bd ≠ 0) (hc : cd ≠ 0) (h1 : mkF (an * bd + bn * ad) (ad * bd) = ((xn, xd), 0)) (h2 : mkF (bn * cd + cn * bd) (bd * cd) = ((yn, yd), 0)) :
    mkF (xn * cd + cn * xd) (xd * cd) = mkF (an * yd + yn * ad) (ad * yd) := by
  obtain ⟨_, v1, e1⟩ := mkF_ok h1
  obtain ⟨_, v2, e2⟩ := mkF_ok h2
  have hx : xd ≠ 0 := by have := v1.1; omega
  have hy : yd ≠ 0 := by have := v2.1; omega
  refine mkF_same (mul_ne hx hc) (mul_ne ha hy) ?_
  rw [q_add hx hc, q_add ha hy, e1, e2, q_add ha hb, q_add hb hc, Rat.add_assoc]
theorem sub_back_mk {an ad bn bd xn xd : Int} (va : Val an ad) (hb : bd ≠ 0) (h1 : mkF (an * bd + bn * ad) (ad * bd) = ((xn, xd), 0)) : mkF (xn * bd - bn * xd) (xd * bd) = ((an, ad), 0) := by
  obtain ⟨_, v1, e1⟩ := mkF_ok h1
  have hx : xd ≠ 0 := by have := v1.1; omega
  have ha : ad ≠ 0 := by have := va.1; omega
  rw [← mkF_val va]
  refine mkF_same (mul_ne hx hb) ha ?_
  rw [q_sub hx hb, e1, q_add ha hb, Rat.add_sub_cancel]
theorem div_back_mk {an ad bn bd xn xd : Int} (va : Val an ad) (hbn : bn ≠ 0) (h1 : mkF (an * bn) (ad * bd) = ((xn, xd), 0)) : mkF (xn * bd) (xd * bn) = ((an, ad), 0) := by
  obtain ⟨v1, _, e1⟩ := mk_cross h1
  have hx : xd ≠ 0 := by have := v1.1; omega
  have ha : ad ≠ 0 := by have := va.1; omega
  rw [← mkF_val va]
  refine mkF_same (mul_ne hx hbn) ha ((q_eq (mul_ne hx hbn) ha).2 ?_)
  grind
theorem distrib_mk {an ad bn bd cn cd xn xd yn yd zn zd : Int} (ha : ad ≠ 0) (hb : bd ≠ 0) (hc : cd ≠ 0) (h1 : mkF (an * bd + bn * ad) (ad * bd) = ((xn, xd), 0)) (h2 : mkF (an * cn) (ad * cd) = ((yn, yd), 0)) (h3 : mkF (bn * cn) (bd * cd) = ((zn, zd), 0)) :
    mkF (xn * cn) (xd * cd) = mkF (yn * zd + zn * yd) (yd * zd) := by
  obtain ⟨_, v1, e1⟩ := mkF_ok h1
  obtain ⟨_, v2, e2⟩ := mkF_ok h2
  obtain ⟨_, v3, e3⟩ := mkF_ok h3
  have hx : xd ≠ 0 := by have := v1.1; omega
  have hy : yd ≠ 0 := by have := v2.1; omega
  have hz : zd ≠ 0 := by have := v3.1; omega
  refine mkF_same (mul_ne hx hc) (mul_ne hy hz) ?_
  rw [q_mul, q_add hy hz, e1, e2, e3, q_add ha hb, q_mul, q_mul, Rat.add_mul]
theorem fit_mk {n d a b c : Int} (h : mkF n d = ((a, b), c)) : Fit a b := by
  by_cases hc : c = 0
  · subst hc; exact (mkF_ok h).2.1.fit
  · have := mkF_bad (n := n) (d := d) (by rw [h]; exact hc)
    rw [h] at this
    cases this
    exact ⟨by omega, by omega, by omega, by omega⟩

end Go.Proofs.YtahfapeggijfkaaDoor
