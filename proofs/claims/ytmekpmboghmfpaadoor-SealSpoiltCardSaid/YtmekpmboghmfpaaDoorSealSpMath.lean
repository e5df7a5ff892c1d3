/- Plain law: at most 32 bits in a row turned don't pass the check sum. -/
import Derived.Test.YtmekpmboghmfpaaDoorSealMath
namespace Go.Proofs.YtmekpmboghmfpaaDoor

def bitB (G : List UInt8) (j : Nat) : Bool := (G.getD (j / 8) 0).toNat.testBit (j % 8)
def feedN (r : BitVec 32) (f : Nat → Bool) : Nat → BitVec 32
  | 0 => r
  | n + 1 => stepBit (feedN r f n) (f n)

theorem stepBit_xor (a b : BitVec 32) (x y : Bool) : stepBit (a ^^^ b) (x ^^ y) = stepBit a x ^^^ stepBit b y := by
  rw [stepBit_eq, stepBit_eq, stepBit_eq, ← crcL_xor]
  congr 1
  cases x <;> cases y <;> simp
  · rw [BitVec.xor_assoc]
  · rw [BitVec.xor_assoc, BitVec.xor_assoc, BitVec.xor_comm b]
  · rw [BitVec.xor_assoc, ← BitVec.xor_assoc 1#32, BitVec.xor_comm 1#32 b, BitVec.xor_assoc b, BitVec.xor_self]; simp

theorem feedN_xor (a b : BitVec 32) (f g : Nat → Bool) (n : Nat) : feedN (a ^^^ b) (fun j => f j ^^ g j) n = feedN a f n ^^^ feedN b g n := by
  induction n with
  | zero => rfl
  | succ n ih => show stepBit (feedN (a ^^^ b) _ n) _ = stepBit _ _ ^^^ stepBit _ _; rw [ih, stepBit_xor]

theorem feedN_congr (r : BitVec 32) (f g : Nat → Bool) (n : Nat) (h : ∀ j, j < n → f j = g j) : feedN r f n = feedN r g n := by
  induction n with
  | zero => rfl
  | succ n ih => show stepBit _ _ = stepBit _ _; rw [ih fun j hj => h j (by omega), h n (by omega)]

theorem feed_byte (r : BitVec 32) (f : Nat → Bool) (k : Nat) (x : UInt8) (h : ∀ j, j < 8 → f (k + j) = bit8 x j) (m : Nat) (hm : m ≤ 8) : feedN r f (k + m) = bitsTo (feedN r f k) x m := by
  induction m with
  | zero => rfl
  | succ m ih => show stepBit (feedN r f (k + m)) (f (k + m)) = stepBit _ _; rw [ih (by omega), h m (by omega)]

theorem feed_bytes (r : BitVec 32) (G : List UInt8) (k : Nat) (hk : k ≤ G.length) : crcR r (G.take k) = feedN r (bitB G) (8 * k) := by
  induction k with
  | zero => simp [crcR, feedN]
  | succ k ih =>
    rw [crcR_snoc r G k (by omega), ih (by omega), ← stepB_eq, show 8 * (k + 1) = 8 * k + 8 by omega]
    refine (feed_byte r (bitB G) (8 * k) (G.getD k 0) (fun j hj => ?_) 8 (Nat.le_refl _)).symm
    unfold bitB bit8
    rw [show (8 * k + j) / 8 = k by omega, show (8 * k + j) % 8 = j by omega]

theorem crcL_eq_zero (s : BitVec 32) (h : crcL s = 0#32) : s = 0#32 := by
  have h0 : s.getLsbD 0 = false := by
    cases h0 : s.getLsbD 0
    · rfl
    · have h31 := congrArg (fun y => BitVec.getLsbD y 31) h
      unfold crcL at h31
      rw [h0] at h31
      have hs : (s >>> 1).getLsbD 31 = false := by
        rw [BitVec.getLsbD_ushiftRight]
        exact BitVec.getLsbD_of_ge _ _ (by omega)
      have hp : (3988292384#32).getLsbD 31 = true := by decide
      simp only [if_true, BitVec.getLsbD_xor, hs, hp] at h31
      simp at h31
  rw [crcL_even s h0] at h
  apply BitVec.eq_of_getLsbD_eq
  intro i hi
  rcases i with _ | i
  · rw [h0]; simp
  · have hi2 := congrArg (fun y => BitVec.getLsbD y i) h
    simp only [BitVec.getLsbD_ushiftRight] at hi2
    rw [Nat.add_comm] at hi2
    rw [hi2]; simp

theorem rep_succ (k : Nat) (s : BitVec 32) : Nat.repeat crcL (k + 1) s = crcL (Nat.repeat crcL k s) := rfl
theorem rep_eq_zero (k : Nat) (s : BitVec 32) (h : Nat.repeat crcL k s = 0#32) : s = 0#32 := by
  induction k with
  | zero => exact h
  | succ k ih => exact ih (crcL_eq_zero _ h)
theorem rep_xor (k : Nat) (a b : BitVec 32) : Nat.repeat crcL k (a ^^^ b) = Nat.repeat crcL k a ^^^ Nat.repeat crcL k b := by
  induction k with
  | zero => rfl
  | succ k ih => rw [rep_succ, ih, crcL_xor]; rfl
theorem rep_add (j k : Nat) (a : BitVec 32) : Nat.repeat crcL (j + k) a = Nat.repeat crcL k (Nat.repeat crcL j a) := by
  induction k with
  | zero => rfl
  | succ k ih => exact congrArg crcL ih
theorem one_rep : ∀ i : Fin 32, Nat.repeat crcL i.1 (1#32 <<< i.1) = 1#32 := by decide +kernel

def lowW (w : BitVec 32) : Nat → BitVec 32
  | 0 => 0#32
  | i + 1 => lowW w i ^^^ (if w.getLsbD i then 1#32 <<< i else 0#32)

theorem lowW_bit (w : BitVec 32) (i j : Nat) (hj : j < 32) : (lowW w i).getLsbD j = (decide (j < i) && w.getLsbD j) := by
  induction i with
  | zero => simp [lowW]
  | succ i ih =>
    unfold lowW
    rw [BitVec.getLsbD_xor, ih]
    by_cases hi : i < 32
    · cases hw : w.getLsbD i
      · simp only [Bool.false_eq_true, if_false]
        by_cases hji : j = i
        · subst hji; simp [hw]
        · have : (decide (j < i + 1)) = decide (j < i) := by rw [decide_eq_decide]; omega
          rw [this]; simp
      · simp only [if_true]
        by_cases hji : j = i
        · subst hji; simp [hw, hj]
        · have h2 : (decide (j < i + 1)) = decide (j < i) := by rw [decide_eq_decide]; omega
          have h3 : (1#32 <<< i).getLsbD j = false := by
            simp [BitVec.getLsbD_shiftLeft, BitVec.getLsbD_one]
            omega
          rw [h2, h3]; simp
    · have hw : w.getLsbD i = false := BitVec.getLsbD_of_ge _ _ (by omega)
      rw [hw]
      have h2 : (decide (j < i + 1)) = decide (j < i) := by rw [decide_eq_decide]; omega
      rw [h2]; simp

theorem feed_zeros (f : Nat → Bool) (n : Nat) (h : ∀ j, j < n → f j = false) : feedN 0#32 f n = 0#32 := by
  induction n with
  | zero => rfl
  | succ n ih =>
    show stepBit _ _ = _
    rw [ih fun j hj => h j (by omega), h n (by omega)]
    decide

theorem burst (w : BitVec 32) (s i : Nat) : feedN 0#32 (fun j => decide (s ≤ j) && w.getLsbD (j - s)) (s + i) = Nat.repeat crcL i (lowW w i) := by
  induction i with
  | zero => exact feed_zeros _ _ fun j hj => by simp; omega
  | succ i ih =>
    show stepBit (feedN 0#32 _ (s + i)) _ = _
    rw [ih, stepBit_eq, rep_succ, lowW, rep_xor]
    congr 2
    show (if (decide (s ≤ s + i) && w.getLsbD (s + i - s)) = true then 1#32 else 0#32) = _
    rw [show s + i - s = i by omega]
    simp only [show s ≤ s + i by omega, decide_true, Bool.true_and]
    by_cases hi : i < 32
    · cases w.getLsbD i
      · have : Nat.repeat crcL i 0#32 = 0#32 := by
          clear ih hi
          induction i with
          | zero => rfl
          | succ i ih => rw [rep_succ, ih]; decide
        simpa using this.symm
      · exact (one_rep ⟨i, hi⟩).symm
    · have hw : w.getLsbD i = false := BitVec.getLsbD_of_ge _ _ (by omega)
      rw [hw]
      have : Nat.repeat crcL i 0#32 = 0#32 := by
        clear ih hi hw
        induction i with
        | zero => rfl
        | succ i ih => rw [rep_succ, ih]; decide
      simpa using this.symm

theorem stepB_lin (r : BitVec 32) (x : UInt8) : stepB r x = Nat.repeat crcL 8 (r ^^^ w32 x) := by
  have h := byte_steps ⟨x.toNat, x.toNat_lt⟩
  have hx : UInt8.ofFin ⟨x.toNat, x.toNat_lt⟩ = x := rfl
  rw [hx] at h
  rw [← stepB_eq, rep_xor, ← h, ← bitsTo_xor]
  simp

theorem shift_down : ∀ x : Fin 256, Nat.repeat crcL 8 (w32 (UInt8.ofFin x) <<< 8) = w32 (UInt8.ofFin x) ∧ Nat.repeat crcL 8 (w32 (UInt8.ofFin x) <<< 16) = w32 (UInt8.ofFin x) <<< 8 ∧ Nat.repeat crcL 8 (w32 (UInt8.ofFin x) <<< 24) = w32 (UInt8.ofFin x) <<< 16 := by decide +kernel
theorem shift_downs (x : UInt8) : Nat.repeat crcL 8 (w32 x <<< 8) = w32 x ∧ Nat.repeat crcL 8 (w32 x <<< 16) = w32 x <<< 8 ∧ Nat.repeat crcL 8 (w32 x <<< 24) = w32 x <<< 16 :=
  shift_down ⟨x.toNat, x.toNat_lt⟩

theorem w32_high (c : UInt8) (i : Nat) (h : 8 ≤ i) : (w32 c).getLsbD i = false := by
  unfold w32
  rw [BitVec.getLsbD_ofNat]
  have : c.toNat.testBit i = false := Nat.testBit_lt_two_pow (Nat.lt_of_lt_of_le c.toNat_lt (Nat.pow_le_pow_right (by decide) h))
  rw [this]; simp

theorem rd32_xor (c0 c1 c2 c3 : UInt8) : rd32 c0 c1 c2 c3 = w32 c0 ^^^ w32 c1 <<< 8 ^^^ w32 c2 <<< 16 ^^^ w32 c3 <<< 24 := by
  unfold rd32
  apply BitVec.eq_of_getLsbD_eq
  intro i hi
  simp only [BitVec.getLsbD_or, BitVec.getLsbD_xor, BitVec.getLsbD_shiftLeft]
  by_cases h1 : i < 8
  · simp [h1, show i < 16 by omega, show i < 24 by omega]
  · rw [w32_high c0 i (by omega)]
    by_cases h2 : i < 16
    · simp [h2, show i < 24 by omega]
    · rw [w32_high c1 (i - 8) (by omega)]
      by_cases h3 : i < 24
      · simp [h3]
      · rw [w32_high c2 (i - 16) (by omega)]; simp

theorem crcR_sum (r : BitVec 32) (c0 c1 c2 c3 : UInt8) : crcR r [c0, c1, c2, c3] = Nat.repeat crcL 32 (r ^^^ rd32 c0 c1 c2 c3) := by
  show stepB (stepB (stepB (stepB r c0) c1) c2) c3 = _
  have e32 : ∀ a, Nat.repeat crcL 32 a = Nat.repeat crcL 8 (Nat.repeat crcL 8 (Nat.repeat crcL 8 (Nat.repeat crcL 8 a))) := fun a => by rw [← rep_add, ← rep_add, ← rep_add]
  rw [rd32_xor, stepB_lin, stepB_lin, stepB_lin, stepB_lin, e32]
  have e : Nat.repeat crcL 8 (r ^^^ (w32 c0 ^^^ w32 c1 <<< 8 ^^^ w32 c2 <<< 16 ^^^ w32 c3 <<< 24)) = Nat.repeat crcL 8 (r ^^^ w32 c0) ^^^ w32 c1 ^^^ w32 c2 <<< 8 ^^^ w32 c3 <<< 16 := by
    rw [← BitVec.xor_assoc, ← BitVec.xor_assoc, ← BitVec.xor_assoc, rep_xor, rep_xor, rep_xor, (shift_downs c1).1, (shift_downs c2).2.1, (shift_downs c3).2.2]
  rw [e]
  generalize Nat.repeat crcL 8 (r ^^^ w32 c0) ^^^ w32 c1 = q
  rw [rep_xor 8 (q ^^^ _), rep_xor 8 q, (shift_downs c2).1, (shift_downs c3).2.1, rep_xor 8 (_ ^^^ _) (w32 c3 <<< 8), (shift_downs c3).1]

theorem last4 (l : List UInt8) (k : Nat) (h : l.length = k + 4) : l = l.take k ++ [l.getD k 0, l.getD (k + 1) 0, l.getD (k + 2) 0, l.getD (k + 3) 0] := by
  apply List.ext_getElem?
  intro i
  by_cases hi : i < k
  · rw [List.getElem?_append_left (by rw [List.length_take]; omega), List.getElem?_take_of_lt hi]
  · rw [List.getElem?_append_right (by rw [List.length_take]; omega), List.length_take, show min k l.length = k by omega]
    by_cases hi4 : i < k + 4
    · have : i = k ∨ i = k + 1 ∨ i = k + 2 ∨ i = k + 3 := by omega
      rcases this with rfl | rfl | rfl | rfl
      · simp [List.getD_eq_getElem?_getD, h]
      · simp [List.getD_eq_getElem?_getD, h]
      · simp [List.getD_eq_getElem?_getD, h]
      · simp [List.getD_eq_getElem?_getD, h]
    · rw [List.getElem?_eq_none (by omega), List.getElem?_eq_none (by simp; omega)]

theorem crcR_append (r : BitVec 32) (a b : List UInt8) : crcR r (a ++ b) = crcR (crcR r a) b := by unfold crcR; rw [List.foldl_append]

/-- a frame that stands whole leaves one register -/
theorem open_residue (L : List UInt8) (h0 : (openF L).2.2 = 0) (hn : (openF L).2.1 = L.length) : crcR 0xffffffff#32 (L.drop 2) = Nat.repeat crcL 32 0xffffffff#32 := by
  unfold openF at h0 hn
  by_cases h1 : badForm L
  · rw [if_pos h1] at h0; exact absurd h0 (by decide)
  · rw [if_neg h1] at h0 hn
    by_cases h2 : L.length < 4
    · rw [if_pos h2] at h0; exact absurd h0 (by decide)
    · rw [if_neg h2] at h0 hn
      by_cases h3 : L.length < bodyLen L + 8
      · rw [if_pos h3] at h0; exact absurd h0 (by decide)
      · rw [if_neg h3] at h0 hn
        by_cases h4 : crc ((L.take (4 + bodyLen L)).drop 2) ≠ sumAt L (4 + bodyLen L)
        · rw [if_pos h4] at h0; exact absurd h0 (by decide)
        · rw [if_neg h4] at h0 hn
          have hn' : bodyLen L + 8 = L.length := hn
          have h5 : crc ((L.take (4 + bodyLen L)).drop 2) = sumAt L (4 + bodyLen L) := Classical.byContradiction h4
          generalize bodyLen L = m at *
          rw [last4 (L.drop 2) (m + 2) (by rw [List.length_drop]; omega), crcR_append, crcR_sum]
          have e1 : (L.drop 2).take (m + 2) = (L.take (4 + m)).drop 2 := by
            rw [List.drop_take, show 4 + m - 2 = m + 2 by omega]
          have e2 : ∀ j, (L.drop 2).getD (m + 2 + j) 0 = L.getD (4 + m + j) 0 := fun j => by
            simp only [List.getD_eq_getElem?_getD, List.getElem?_drop]
            rw [show 2 + (m + 2 + j) = 4 + m + j by omega]
          rw [e1, show m + 2 = m + 2 + 0 from rfl, e2 0, e2 1, show m + 2 + 0 + 2 = m + 2 + 2 from rfl, e2 2, e2 3]
          have h6 : rd32 (L.getD (4 + m + 0) 0) (L.getD (4 + m + 1) 0) (L.getD (4 + m + 2) 0) (L.getD (4 + m + 3) 0) = sumAt L (4 + m) := rfl
          rw [h6, ← h5]
          congr 1
          unfold crc
          generalize crcR 4294967295#32 _ = q
          rw [← BitVec.xor_assoc, BitVec.xor_self]
          simp

def anyBit (w : BitVec 32) : Nat → Bool
  | 0 => false
  | i + 1 => anyBit w i || w.getLsbD i
theorem anyBit_at (w : BitVec 32) (i : Nat) (h : anyBit w i = true) : ∃ j, j < i ∧ w.getLsbD j = true := by
  induction i with
  | zero => cases h
  | succ i ih =>
    simp only [anyBit, Bool.or_eq_true] at h
    rcases h with h | h
    · obtain ⟨j, h1, h2⟩ := ih h; exact ⟨j, by omega, h2⟩
    · exact ⟨i, by omega, h⟩

theorem spoil_end (l L : List UInt8) (hl : l.length ≤ 65535) (s i : Nat) (w : BitVec 32) (hL : L.length = l.length + 8)
    (hb : ∀ j, j < 8 * (l.length + 6) → bitB (L.drop 2) j = (bitB ((frameOf l).drop 2) j ^^ (decide (s ≤ j) && decide (j - s < i) && w.getLsbD (j - s))))
    (hi : s + i ≤ 8 * (l.length + 6)) (hany : anyBit w i = true) : ¬ ((openF L).2.2 = 0 ∧ (openF L).2.1 = l.length + 8) := by
  rintro ⟨h0, hn⟩
  have r1 := open_residue L h0 (by rw [hn, hL])
  have hF := open_frame l [] hl
  rw [List.append_nil] at hF
  have r2 := open_residue (frameOf l) (by rw [hF]) (by rw [hF, frameOf_len])
  rw [← r2] at r1
  have g1 := feed_bytes 0xffffffff#32 (L.drop 2) (l.length + 6) (by rw [List.length_drop]; omega)
  have g2 := feed_bytes 0xffffffff#32 ((frameOf l).drop 2) (l.length + 6) (by rw [List.length_drop, frameOf_len]; omega)
  rw [List.take_of_length_le (by rw [List.length_drop]; omega)] at g1
  rw [List.take_of_length_le (by rw [List.length_drop, frameOf_len]; omega)] at g2
  rw [r1, g2] at g1
  generalize 8 * (l.length + 6) = n at *
  have d1 : feedN (0xffffffff#32 ^^^ 0xffffffff#32) (fun j => bitB ((frameOf l).drop 2) j ^^ bitB (L.drop 2) j) n = 0#32 := by
    rw [feedN_xor, g1, BitVec.xor_self]
  rw [BitVec.xor_self, feedN_congr _ _ (fun j => decide (s ≤ j) && (lowW w i).getLsbD (j - s)) n ?_, show n = s + (n - s) by omega, burst] at d1
  · have d2 := rep_eq_zero _ _ d1
    obtain ⟨j, hj, hw⟩ := anyBit_at w i hany
    have hj32 : j < 32 := by
      refine Classical.byContradiction fun h => ?_
      rw [BitVec.getLsbD_of_ge _ _ (by omega)] at hw
      cases hw
    have d3 := congrArg (fun y => BitVec.getLsbD y j) d2
    simp only [lowW_bit _ _ _ hj32, hw] at d3
    simp at d3
    omega
  · intro j hj
    rw [hb j hj]
    by_cases hlt : j - s < 32
    · rw [lowW_bit _ _ _ hlt]
      generalize bitB _ _ = p
      cases p <;> cases (decide (s ≤ j)) <;> simp
    · have e1 : (lowW w i).getLsbD (j - s) = false := BitVec.getLsbD_of_ge _ _ (by omega)
      have e2 : w.getLsbD (j - s) = false := BitVec.getLsbD_of_ge _ _ (by omega)
      rw [e1, e2]; simp

/-- one bit more -/
def flip (c : UInt8) (j : Nat) : UInt8 := UInt8.ofNat (c.toNat ^^^ 2 ^ j)
theorem flip_toNat (c : UInt8) (j : Nat) (h : j < 8) : (flip c j).toNat = c.toNat ^^^ 2 ^ j := by
  unfold flip
  have h1 : 2 ^ j < 2 ^ 8 := Nat.pow_lt_pow_right (by decide) h
  have h2 : c.toNat ^^^ 2 ^ j < 2 ^ 8 := Nat.xor_lt_two_pow c.toNat_lt h1
  rw [UInt8.toNat_ofNat']
  exact Nat.mod_eq_of_lt h2

theorem spoil_step (F L : List UInt8) (s i : Nat) (w : BitVec 32) (n : Nat) (hL : L.length = n + 2)
    (hb : ∀ j, j < 8 * n → bitB (L.drop 2) j = (bitB (F.drop 2) j ^^ (decide (s ≤ j) && decide (j - s < i) && w.getLsbD (j - s))))
    (hw : w.getLsbD i = true) :
    ∀ j, j < 8 * n → bitB ((L.set (2 + (s + i) / 8) (flip (L.getD (2 + (s + i) / 8) 0) ((s + i) % 8))).drop 2) j = (bitB (F.drop 2) j ^^ (decide (s ≤ j) && decide (j - s < i + 1) && w.getLsbD (j - s))) := by
  intro j hj
  have key : bitB ((L.set (2 + (s + i) / 8) (flip (L.getD (2 + (s + i) / 8) 0) ((s + i) % 8))).drop 2) j = (bitB (L.drop 2) j ^^ decide (j = s + i)) := by
    unfold bitB
    simp only [List.getD_eq_getElem?_getD, List.getElem?_drop]
    rw [List.getElem?_set]
    by_cases hq : j / 8 = (s + i) / 8
    · rw [if_pos (by omega), if_pos (by omega), hq]
      show (flip _ _).toNat.testBit _ = _
      rw [flip_toNat _ _ (by omega), Nat.testBit_xor, Nat.testBit_two_pow]
      congr 1
      rw [decide_eq_decide]
      omega
    · rw [if_neg (by omega)]
      have : decide (j = s + i) = false := by rw [decide_eq_false_iff_not]; intro h; exact hq (by rw [h])
      rw [this]; simp
  rw [key, hb j hj]
  by_cases hjs : j = s + i
  · subst hjs
    simp [show s + i - s = i by omega, hw]
  · have h1 : decide (j = s + i) = false := by simp [hjs]
    rw [h1]
    by_cases hsj : s ≤ j
    · have h2 : decide (j - s < i + 1) = decide (j - s < i) := by rw [decide_eq_decide]; omega
      rw [h2]; simp
    · simp [hsj]

theorem spoil_skip (F L : List UInt8) (s i : Nat) (w : BitVec 32) (n : Nat)
    (hb : ∀ j, j < 8 * n → bitB (L.drop 2) j = (bitB (F.drop 2) j ^^ (decide (s ≤ j) && decide (j - s < i) && w.getLsbD (j - s))))
    (hw : w.getLsbD i = false) :
    ∀ j, j < 8 * n → bitB (L.drop 2) j = (bitB (F.drop 2) j ^^ (decide (s ≤ j) && decide (j - s < i + 1) && w.getLsbD (j - s))) := by
  intro j hj
  rw [hb j hj]
  congr 1
  by_cases hjs : j - s = i
  · rw [hjs, hw]; simp
  · have h2 : decide (j - s < i + 1) = decide (j - s < i) := by rw [decide_eq_decide]; omega
    rw [h2]

end Go.Proofs.YtmekpmboghmfpaaDoor
