/- The text of a fraction, and back: plain. No walk here. -/
import Derived.Test.YtckedklopgnloaaDoorFracT
import Derived.Test.YtckedklopgnloaaDoorFracMath
import Derived.Lib.ParseIntB
import Derived.Lib.IndexLaws
namespace Go.Proofs.YtckedklopgnloaaDoor
open Go.RowKit

/-- a digit -/
def dig (c : UInt8) : Prop := 48 ≤ c.toNat ∧ c.toNat ≤ 57
instance (c : UInt8) : Decidable (dig c) := inferInstanceAs (Decidable (_ ∧ _))
theorem digit_nat (i : Nat) (h : i < 10) : (UInt8.ofNat (48 + i)).toNat = 48 + i := by
  rw [UInt8.toNat_ofNat']; omega
theorem dec_small {u : Nat} (h : u < 10) : Lib.decDigits u = [UInt8.ofNat (48 + u)] := by rw [Lib.decDigits, dif_pos h]
theorem dec_big {u : Nat} (h : ¬ u < 10) : Lib.decDigits u = Lib.decDigits (u / 10) ++ [UInt8.ofNat (48 + u % 10)] := by rw [Lib.decDigits, dif_neg h]
theorem dec_dig (u : Nat) : ∀ c ∈ Lib.decDigits u, dig c := by
  induction u using Nat.strongRecOn with
  | _ u ih =>
    intro c hc
    by_cases h : u < 10
    · rw [dec_small h] at hc
      simp only [List.mem_singleton] at hc
      subst hc
      have := digit_nat u h
      unfold dig; omega
    · rw [dec_big h] at hc
      rcases List.mem_append.1 hc with hc | hc
      · exact ih (u / 10) (by omega) c hc
      · simp only [List.mem_singleton] at hc
        subst hc
        have := digit_nat (u % 10) (by omega)
        unfold dig; omega
theorem dec_ne (u : Nat) : Lib.decDigits u ≠ [] := by
  by_cases h : u < 10
  · rw [dec_small h]; simp
  · rw [dec_big h]; simp
theorem dec_le (k u : Nat) (h : u < 10 ^ (k + 1)) : (Lib.decDigits u).length ≤ k + 1 := by
  induction k generalizing u with
  | zero => rw [dec_small (by simpa using h)]; simp
  | succ k ih =>
    by_cases h1 : u < 10
    · rw [dec_small h1]; simp
    · rw [dec_big h1, List.length_append]
      have := ih (u / 10) (by rw [Nat.pow_succ] at h; omega)
      simp; omega
/-- what digits say -/
def valD (l : List UInt8) : Nat := l.foldl (fun n c => 10 * n + (c.toNat - 48)) 0
theorem valD_snoc (l : List UInt8) (c : UInt8) : valD (l ++ [c]) = 10 * valD l + (c.toNat - 48) := by simp [valD]
theorem valD_dec (u : Nat) : valD (Lib.decDigits u) = u := by
  induction u using Nat.strongRecOn with
  | _ u ih =>
    by_cases h : u < 10
    · rw [dec_small h]
      have := digit_nat u h
      simp only [valD, List.foldl_cons, List.foldl_nil]
      omega
    · rw [dec_big h, valD_snoc, ih (u / 10) (by omega)]
      have := digit_nat (u % 10) (by omega)
      omega
theorem valD_lt (k : Nat) (l : List UInt8) (h : ∀ c ∈ l, dig c) (hk : l.length = k) : valD l < 10 ^ k := by
  induction k generalizing l with
  | zero => obtain rfl := List.eq_nil_of_length_eq_zero hk; simp [valD]
  | succ k ih =>
    have hne : l ≠ [] := by intro h0; subst h0; simp at hk
    obtain ⟨a, c, rfl⟩ : ∃ a c, l = a ++ [c] := ⟨l.dropLast, l.getLast hne, (List.dropLast_concat_getLast hne).symm⟩
    have hd := h c (by simp)
    have := ih a (fun x hx => h x (by simp [hx])) (by simpa using hk)
    rw [valD_snoc, Nat.pow_succ]
    unfold dig at hd; omega

theorem parseM_app (M : Nat) (l r : List UInt8) (acc a : Nat) (h : Lib.parseUintM M acc l = .ok a) : Lib.parseUintM M acc (l ++ r) = Lib.parseUintM M a r := by
  induction l generalizing acc with
  | nil => simp only [Lib.parseUintM] at h; cases h; rfl
  | cons c l ih =>
    simp only [List.cons_append, Lib.parseUintM] at h ⊢
    by_cases h1 : 48 ≤ c.toNat ∧ c.toNat ≤ 57
    · rw [if_pos h1] at h ⊢
      by_cases h2 : 1844674407370955162 ≤ acc
      · rw [if_pos h2] at h; cases h
      · rw [if_neg h2] at h ⊢
        by_cases h3 : M < acc * 10 + (c.toNat - 48)
        · rw [if_pos h3] at h; cases h
        · rw [if_neg h3] at h ⊢; exact ih _ h
    · rw [if_neg h1] at h; cases h
theorem parseM_dec (M u : Nat) (h : u < 1844674407370955162) (hM : u ≤ M) : Lib.parseUintM M 0 (Lib.decDigits u) = .ok u := by
  induction u using Nat.strongRecOn with
  | _ u ih =>
    by_cases h1 : u < 10
    · rw [dec_small h1]
      have := digit_nat u h1
      simp only [Lib.parseUintM]
      rw [if_pos (by omega), if_neg (by omega), if_neg (by omega)]
      congr 1; omega
    · rw [dec_big h1, parseM_app _ _ _ _ _ (ih (u / 10) (by omega) (by omega) (by omega))]
      have := digit_nat (u % 10) (by omega)
      simp only [Lib.parseUintM]
      rw [if_pos (by omega), if_neg (by omega), if_neg (by omega)]
      congr 1; omega
theorem itoa_neg' {a : Int} (h : a < 0) : Lib.itoa a = 45 :: Lib.decDigits a.natAbs := by unfold Lib.itoa; rw [if_pos h]
theorem itoa_pos' {a : Int} (h : ¬ a < 0) : Lib.itoa a = Lib.decDigits a.natAbs := by
  unfold Lib.itoa; rw [if_neg h]; congr 1; omega
theorem parse_itoa (a : Int) (h0 : -2147483647 ≤ a) (h1 : a ≤ 2147483647) : Lib.parseIntB 64 (Lib.itoa a) = .ok a := by
  have hp := parseM_dec (2 ^ 64 - 1) a.natAbs (by omega) (by omega)
  have hB : Lib.parseUintB 64 (Lib.decDigits a.natAbs) = .ok a.natAbs := by
    unfold Lib.parseUintB; rw [if_neg (dec_ne _)]; exact hp
  by_cases h : a < 0
  · rw [itoa_neg' h]
    have e : (45 : UInt8).toNat = 45 := rfl
    simp only [Lib.parseIntB, e]
    rw [if_pos (Or.inr trivial), hB]
    simp only [not_true_eq_false, false_and, if_false, true_and, if_true]
    rw [if_neg (by omega)]
    congr 1; omega
  · rw [itoa_pos' h]
    obtain ⟨c, r, hc⟩ : ∃ c r, Lib.decDigits a.natAbs = c :: r := by
      cases hl : Lib.decDigits a.natAbs with
      | nil => exact absurd hl (dec_ne _)
      | cons c r => exact ⟨c, r, rfl⟩
    have hd := dec_dig a.natAbs c (by rw [hc]; simp)
    have n1 : c.toNat ≠ 43 := by unfold dig at hd; omega
    have n2 : c.toNat ≠ 45 := by unfold dig at hd; omega
    rw [hc] at hB ⊢
    simp only [Lib.parseIntB]
    rw [if_neg (by omega), hB]
    simp only [n2, not_false_eq_true, true_and, false_and, if_false]
    rw [if_neg (by omega)]
    congr 1; omega
theorem itoa_noslash (a : Int) : (47 : UInt8) ∉ Lib.itoa a := by
  intro h
  have : (47 : UInt8) ∈ Lib.decDigits a.natAbs := by
    by_cases h0 : a < 0
    · rw [itoa_neg' h0] at h
      rcases List.mem_cons.1 h with h | h
      · exact absurd h (by decide)
      · exact h
    · rw [itoa_pos' h0] at h; exact h
  have := dec_dig _ _ this
  unfold dig at this
  exact absurd this (by decide)
theorem split_at {a b a' b' : List UInt8} (h : a ++ 47 :: b = a' ++ 47 :: b') (ha : (47 : UInt8) ∉ a) (ha' : (47 : UInt8) ∉ a') : a = a' ∧ b = b' := by
  induction a generalizing a' with
  | nil =>
    cases a' with
    | nil => simpa using h
    | cons c r => simp at h; exact absurd h.1 (fun e => ha' (by rw [e]; simp))
  | cons x a ih =>
    cases a' with
    | nil => simp at h; exact absurd h.1 (fun e => ha (by rw [e]; simp))
    | cons c r =>
      simp only [List.cons_append, List.cons.injEq] at h
      obtain ⟨i1, i2⟩ := ih h.2 (fun e => ha (by simp [e])) (fun e => ha' (by simp [e]))
      exact ⟨by rw [h.1, i1], i2⟩
theorem fracText_one (n : Int) : fracText n 1 = Lib.itoa n := by simp [fracText]
theorem fracText_other {n d : Int} (h : d ≠ 1) : fracText n d = Lib.itoa n ++ 47 :: Lib.itoa d := by simp [fracText, h]

/-- strings.Cut at '/' -/
def CutR (l a b : List UInt8) (has : Bool) : Prop := (has = true ∧ l = a ++ 47 :: b ∧ (47 : UInt8) ∉ a) ∨ (has = false ∧ a = l ∧ b = [] ∧ (47 : UInt8) ∉ l)
theorem CutR.text {l a b : List UInt8} {has : Bool} (h : CutR l a b has) {n d : Int} (he : l = fracText n d) : a = Lib.itoa n ∧ (d = 1 → has = false) ∧ (d ≠ 1 → has = true ∧ b = Lib.itoa d) := by
  by_cases hd : d = 1
  · subst hd
    rw [fracText_one] at he
    rcases h with ⟨rfl, h1, h2⟩ | ⟨rfl, rfl, rfl, h2⟩
    · exfalso
      have := itoa_noslash n
      rw [← he, h1] at this
      exact this (by simp)
    · exact ⟨he, fun _ => rfl, fun h => absurd rfl h⟩
  · rw [fracText_other hd] at he
    rcases h with ⟨rfl, h1, h2⟩ | ⟨rfl, rfl, rfl, h2⟩
    · obtain ⟨i1, i2⟩ := split_at (h1.symm.trans he) h2 (itoa_noslash n)
      exact ⟨i1, fun h => absurd h hd, fun _ => ⟨rfl, i2⟩⟩
    · exfalso
      rw [he] at h2
      exact h2 (by simp)
theorem CutR.small {l a b : List UInt8} {has : Bool} (h : CutR l a b has) : a.length ≤ l.length ∧ b.length ≤ l.length := by
  rcases h with ⟨rfl, h1, h2⟩ | ⟨rfl, rfl, rfl, h2⟩
  · rw [h1]; simp; omega
  · simp
theorem parse_inj {a b : Int} (h : Lib.itoa a = Lib.itoa b) (a0 : -2147483647 ≤ a) (a1 : a ≤ 2147483647) (b0 : -2147483647 ≤ b) (b1 : b ≤ 2147483647) : a = b := by
  have h1 := parse_itoa a a0 a1
  rw [h, parse_itoa b b0 b1] at h1
  cases h1; rfl
theorem fracText_inj {n d n' d' : Int} (h : Val n d) (h' : Val n' d') (he : fracText n d = fracText n' d') : n = n' ∧ d = d' := by
  have hc : CutR (fracText n d) (Lib.itoa n) (if d = 1 then [] else Lib.itoa d) (decide (d ≠ 1)) := by
    by_cases hd : d = 1
    · subst hd
      exact .inr ⟨by simp, (fracText_one n).symm, by simp, by rw [fracText_one]; exact itoa_noslash n⟩
    · refine .inl ⟨by simp [hd], ?_, itoa_noslash n⟩
      rw [if_neg hd]; exact fracText_other hd
  obtain ⟨h1, h2, h3⟩ := hc.text he
  refine ⟨parse_inj h1 h.2.2.1 h.2.2.2.1 h'.2.2.1 h'.2.2.2.1, ?_⟩
  by_cases hd' : d' = 1
  · have := h2 hd'
    rw [hd']; simpa using this
  · obtain ⟨i1, i2⟩ := h3 hd'
    have hd : d ≠ 1 := by simpa using i1
    rw [if_neg hd] at i2
    exact parse_inj i2 (by have := h.1; omega) h.2.1 (by have := h'.1; omega) h'.2.1

/-- what Parse answers -/
def ParseR (l : List UInt8) (n d : Int) (ok : Bool) : Prop := (ok = true ∧ Val n d ∧ l = fracText n d) ∨ (ok = false ∧ n = 0 ∧ d = 0 ∧ ∀ a b, Val a b → l ≠ fracText a b)
theorem ParseR.only {l : List UInt8} {n d n' d' : Int} {ok ok' : Bool} (h : ParseR l n d ok) (h' : ParseR l n' d' ok') : n = n' ∧ d = d' ∧ ok = ok' := by
  rcases h with ⟨rfl, h1, h2⟩ | ⟨rfl, rfl, rfl, h2⟩
  · rcases h' with ⟨rfl, g1, g2⟩ | ⟨rfl, rfl, rfl, g2⟩
    · obtain ⟨e1, e2⟩ := fracText_inj h1 g1 (h2.symm.trans g2)
      exact ⟨e1, e2, rfl⟩
    · exact absurd h2 (g2 _ _ h1)
  · rcases h' with ⟨rfl, g1, g2⟩ | ⟨rfl, rfl, rfl, g2⟩
    · exact absurd g2 (h2 _ _ g1)
    · exact ⟨rfl, rfl, rfl⟩
theorem ParseR.back {n d n' d' : Int} {ok : Bool} (h : ParseR (fracText n d) n' d' ok) (hv : Val n d) : n' = n ∧ d' = d ∧ ok = true := by
  rcases h with ⟨rfl, h1, h2⟩ | ⟨rfl, rfl, rfl, h2⟩
  · obtain ⟨e1, e2⟩ := fracText_inj hv h1 h2
    exact ⟨e1.symm, e2.symm, rfl⟩
  · exact absurd rfl (h2 _ _ hv)

/-- what the document's digits answers -/
def DigR (l : List UInt8) (n k : Nat) : Prop := k ≤ l.length ∧ k ≤ 11 ∧ (∀ c ∈ l.take k, dig c) ∧ n = valD (l.take k) ∧ (k < l.length → k < 11 → ¬ dig (l.getD k 0))
theorem DigR.lt {l : List UInt8} {n k : Nat} (h : DigR l n k) : n < 100000000000 := by
  obtain ⟨h1, h2, h3, h4, h5⟩ := h
  have := valD_lt k (l.take k) h3 (by simp; omega)
  have h6 : 10 ^ k ≤ 10 ^ 11 := Nat.pow_le_pow_right (by decide) h2
  rw [h4]
  have : (10 : Nat) ^ 11 = 100000000000 := by decide
  omega
theorem DigR.dec {u n k : Nat} {rest : List UInt8} (h : DigR (Lib.decDigits u ++ rest) n k) (hu : u < 10000000000) (hr : ∀ c r, rest = c :: r → ¬ dig c) : k = (Lib.decDigits u).length ∧ n = u := by
  obtain ⟨h1, h2, h3, h4, h5⟩ := h
  have hl := dec_le 9 u (by simpa using hu)
  have hk : k = (Lib.decDigits u).length := by
    rcases Nat.lt_trichotomy k (Lib.decDigits u).length with h | h | h
    · exfalso
      refine h5 (by simp; omega) (by omega) ?_
      have : (Lib.decDigits u ++ rest).getD k 0 = (Lib.decDigits u)[k] := by simp [List.getD, List.getElem?_append_left h, h]
      rw [this]
      exact dec_dig u _ (List.getElem_mem h)
    · exact h
    · exfalso
      cases rest with
      | nil => simp at h1; omega
      | cons c r =>
        refine hr c r rfl (h3 c ?_)
        rw [List.take_append, List.take_of_length_le (by omega)]
        obtain ⟨m, hm⟩ : ∃ m, k - (Lib.decDigits u).length = m + 1 := ⟨k - (Lib.decDigits u).length - 1, by omega⟩
        rw [hm]; simp
  refine ⟨hk, ?_⟩
  rw [h4, hk, List.take_left', valD_dec]
  rfl
/-- the document's Parse, up to its last test -/
def RPar (l : List UInt8) (num d : Int) (at2 : Nat) : Prop := ∃ at0 n k : Nat, at0 = (if l.head? = some 45 then 1 else 0) ∧ DigR (l.drop at0) n k ∧ num = (if at0 = 1 then -(n : Int) else n) ∧
  (((l.drop (at0 + k)).head? = some 47 ∧ ∃ m e : Nat, DigR (l.drop (at0 + k + 1)) e m ∧ d = (e : Int) ∧ at2 = at0 + k + 1 + m) ∨ ((l.drop (at0 + k)).head? ≠ some 47 ∧ d = 1 ∧ at2 = at0 + k))
theorem RPar.key {l : List UInt8} {num d : Int} {at2 : Nat} (h : RPar l num d at2) {a b : Int} (hv : Val a b) (he : l = fracText a b) : at2 = l.length ∧ num = a ∧ d = b := by
  obtain ⟨at0, n, k, h0, h1, h2, h3⟩ := h
  obtain ⟨v1, v2, v3, v4, v5⟩ := hv
  obtain ⟨tail, ht⟩ : ∃ tail : List UInt8, tail = if b = 1 then [] else 47 :: Lib.itoa b := ⟨_, rfl⟩
  have hl : l = Lib.itoa a ++ tail := by rw [he, ht]; by_cases hb : b = 1 <;> simp [fracText, hb]
  have htd : ∀ c r, tail = c :: r → ¬ dig c := by
    intro c r hc
    rw [ht] at hc
    by_cases hb : b = 1
    · rw [if_pos hb] at hc; cases hc
    · rw [if_neg hb] at hc; cases hc; decide
  have hs : at0 ≤ 1 ∧ (at0 = 1 ↔ a < 0) ∧ l.drop at0 = Lib.decDigits a.natAbs ++ tail ∧ l.length = at0 + (Lib.decDigits a.natAbs).length + tail.length := by
    by_cases ha : a < 0
    · rw [itoa_neg' ha] at hl
      rw [hl] at h0
      simp at h0
      subst h0
      refine ⟨Nat.le_refl _, by simp [ha], by rw [hl]; rfl, by rw [hl]; simp; omega⟩
    · rw [itoa_pos' ha] at hl
      have : at0 = 0 := by
        rw [h0, if_neg]
        intro h45
        obtain ⟨c, r, hc⟩ : ∃ c r, Lib.decDigits a.natAbs = c :: r := by
          cases hl : Lib.decDigits a.natAbs with
          | nil => exact absurd hl (dec_ne _)
          | cons c r => exact ⟨c, r, rfl⟩
        have hd := dec_dig a.natAbs c (by rw [hc]; simp)
        rw [hl, hc] at h45
        simp at h45
        subst h45
        exact absurd hd (by decide)
      subst this
      refine ⟨by omega, by simp [ha], by rw [hl]; rfl, by rw [hl]; simp⟩
  obtain ⟨s1, s2, s3, s4⟩ := hs
  rw [s3] at h1
  obtain ⟨hk, hn⟩ := h1.dec (by omega) htd
  have hnum : num = a := by
    rw [h2, hn]
    by_cases ha : a < 0
    · rw [if_pos (s2.2 ha)]; omega
    · rw [if_neg (fun h => ha (s2.1 h))]; omega
  have hdt : l.drop (at0 + k) = tail := by rw [← List.drop_drop, s3, hk, List.drop_left' rfl]
  have hdt1 : l.drop (at0 + k + 1) = tail.drop 1 := by rw [← List.drop_drop, hdt]
  rw [hdt] at h3
  rw [hdt1] at h3
  by_cases hb : b = 1
  · rw [if_pos hb] at ht
    subst ht
    rcases h3 with ⟨h3, _⟩ | ⟨_, h4, h5⟩
    · simp at h3
    · exact ⟨by rw [h5, s4, hk]; simp, hnum, by rw [h4, hb]⟩
  · rw [if_neg hb] at ht
    subst ht
    rcases h3 with ⟨_, m, e, h4, h5, h6⟩ | ⟨h3, _⟩
    · simp only [List.drop_succ_cons, List.drop_zero] at h4
      rw [itoa_pos' (by omega), ← List.append_nil (Lib.decDigits b.natAbs)] at h4
      obtain ⟨g1, g2⟩ := h4.dec (by omega) (fun c r h => by cases h)
      refine ⟨?_, hnum, by rw [h5, g2]; omega⟩
      rw [h6, s4, hk, g1, itoa_pos' (show ¬ b < 0 by omega)]; simp; omega
    · simp at h3

end Go.Proofs.YtckedklopgnloaaDoor
