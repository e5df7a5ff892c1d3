/- Numbers, fields, rows of fields: read back, cut off, in one form. No program here.
Plain laws about frames: what Open tells of a frame with bytes behind, and of a frame's beginning.
Wire: the program's Same; unlike packets have unlike bytes (by program: wip/tools/gen_wire29.py). -/
import Derived.Test.YtgnpjenpehfjbaaDoorMB
import Derived.Test.YtgnpjenpehfjbaaDoorMA
import Derived.Test.YtgnpjenpehfjbaaDoorML
set_option linter.unusedSimpArgs false
set_option linter.unusedVariables false
namespace Go.Proofs.YtgnpjenpehfjbaaDoor

theorem drop_cons {l : List UInt8} {a : Nat} {c : UInt8} {r : List UInt8} (h : l.drop a = c :: r) : a < l.length ∧ l.getD a 0 = c ∧ l.drop (a + 1) = r := by
  have hlt : a < l.length := by
    rcases Nat.lt_or_ge a l.length with h1 | h1
    · exact h1
    · rw [List.drop_eq_nil_of_le h1] at h; cases h
  rw [List.drop_eq_getElem_cons hlt] at h
  injection h with h1 h2
  exact ⟨hlt, by simp [List.getD, hlt, h1], h2⟩
theorem p128 (f : Nat) (h : f + 1 ≤ 9) : 128 ^ (9 - f) = 128 * 128 ^ (9 - (f + 1)) := by
  rw [show 9 - f = (9 - (f + 1)) + 1 by omega, Nat.pow_succ, Nat.mul_comm]
/-- a number is read back -/
theorem numR_vint (l rest : List UInt8) (f : Nat) : ∀ a acc z, f ≤ 9 → l.drop a = vintF (f + 1) z ++ rest → acc + z * 128 ^ (9 - f) < 18446744073709551616 → (f < 9 → 0 < z) →
    numR l (f + 1) a acc = (acc + z * 128 ^ (9 - f), a + (vintF (f + 1) z).length, 0) := by
  induction f with
  | zero =>
    intro a acc z _ hd hz h0
    have hz1 : z ≤ 1 := by
      have : (128 : Nat) ^ (9 - 0) = 9223372036854775808 := by decide
      rw [this] at hz; omega
    rw [vintF_last _ z (by omega)] at hd ⊢
    obtain ⟨h1, h2, h3⟩ := drop_cons hd
    show (if _ then _ else _) = _
    rw [if_neg (by omega), h2]
    have hc : (UInt8.ofNat z).toNat = z := by simp; omega
    rw [hc, if_neg (by have := h0 (by omega); omega), if_pos (by omega)]
    rfl
  | succ f ih =>
    intro a acc z hf hd hz h0
    by_cases h127 : 127 < z
    · rw [vintF_more _ z h127] at hd ⊢
      obtain ⟨h1, h2, h3⟩ := drop_cons hd
      show (if _ then _ else _) = _
      rw [if_neg (by omega), h2]
      have hc : (UInt8.ofNat (z % 128 + 128)).toNat = z % 128 + 128 := by simp; omega
      have hp := p128 f hf
      have hzz : z * 128 ^ (9 - (f + 1)) = (z % 128) * 128 ^ (9 - (f + 1)) + (z / 128) * 128 ^ (9 - f) := by
        rw [hp, ← Nat.mul_assoc, ← Nat.add_mul]; congr 1; omega
      rw [hc, if_neg (by omega), if_neg (by omega)]
      rw [ih (a + 1) _ (z / 128) (by omega) h3 (by rw [Nat.add_sub_cancel]; omega) (by omega)]
      rw [Nat.add_sub_cancel, hzz]
      simp only [List.length_cons]
      refine Prod.ext (by simp; omega) (Prod.ext (by simp; omega) rfl)
    · rw [vintF_last _ z h127] at hd ⊢
      obtain ⟨h1, h2, h3⟩ := drop_cons hd
      show (if _ then _ else _) = _
      rw [if_neg (by omega), h2]
      have hc : (UInt8.ofNat z).toNat = z := by simp; omega
      rw [hc, if_neg (by
        rintro (⟨h, h'⟩ | ⟨h, h'⟩)
        · have := h0 h; omega
        · omega), if_pos (by omega)]
      rfl
/-- cut off within: too short -/
theorem numR_short (l : List UInt8) (f : Nat) : ∀ a acc z k, f ≤ 9 → l.drop a = (vintF (f + 1) z).take k → k < (vintF (f + 1) z).length → z * 128 ^ (9 - f) < 18446744073709551616 → (numR l (f + 1) a acc).2.2 = 21 := by
  have nil : ∀ a, l.drop a = [] → l.length ≤ a := fun a h => by
    rcases Nat.lt_or_ge a l.length with h1 | h1
    · rw [List.drop_eq_getElem_cons h1] at h; cases h
    · exact h1
  induction f with
  | zero =>
    intro a acc z k _ hd hk hz
    have hz1 : z ≤ 1 := by
      have : (128 : Nat) ^ (9 - 0) = 9223372036854775808 := by decide
      rw [this] at hz; omega
    rw [vintF_last _ z (by omega)] at hd hk
    obtain rfl : k = 0 := by simpa using hk
    show (if _ then _ else _ : Nat × Nat × Nat).2.2 = 21
    rw [if_pos (nil a (by simpa using hd))]
  | succ f ih =>
    intro a acc z k hf hd hk hz
    cases k with
    | zero =>
      show (if _ then _ else _ : Nat × Nat × Nat).2.2 = 21
      rw [if_pos (nil a (by simpa using hd))]
    | succ k =>
      by_cases h127 : 127 < z
      · rw [vintF_more _ z h127] at hd hk
        rw [List.take_succ_cons] at hd
        obtain ⟨h1, h2, h3⟩ := drop_cons hd
        show (if _ then _ else _ : Nat × Nat × Nat).2.2 = 21
        have hc : (UInt8.ofNat (z % 128 + 128)).toNat = z % 128 + 128 := by simp; omega
        rw [if_neg (by omega), h2, hc, if_neg (by omega), if_neg (by omega)]
        have hp := p128 f hf
        have hle : (z / 128) * 128 ^ (9 - f) ≤ z * 128 ^ (9 - (f + 1)) := by
          rw [hp, ← Nat.mul_assoc]
          exact Nat.mul_le_mul_right _ (by omega)
        exact ih (a + 1) _ (z / 128) k (by omega) h3 (by simpa using hk) (by omega)
      · rw [vintF_last _ z h127] at hk; simp at hk
theorem take_one {l : List UInt8} {a : Nat} (h : a < l.length) : (l.take (a + 1)).drop a = [l.getD a 0] := by
  rw [List.take_succ_eq_append_getElem h, List.drop_append_of_le_length (by simp; omega), List.drop_take]
  simp [List.getD, h]
theorem take_step {l : List UInt8} {a b : Nat} (h : a < l.length) (hb : a + 1 ≤ b) : (l.take b).drop a = l.getD a 0 :: (l.take b).drop (a + 1) := by
  rw [List.drop_eq_getElem_cons (by simp; omega)]
  congr 1
  simp [List.getD, h]
/-- what is read as a number is that number's bytes -/
theorem numR_form (l : List UInt8) (f : Nat) : ∀ a acc x b, f ≤ 9 → numR l (f + 1) a acc = (x, b, 0) → ∃ z, x = acc + z * 128 ^ (9 - f) ∧ b ≤ l.length ∧ a < b ∧ (l.take b).drop a = vintF (f + 1) z ∧ (f < 9 → 0 < z) := by
  have start : ∀ f a acc x b, numR l (f + 1) a acc = (x, b, 0) → a < l.length ∧ ¬ ((f < 9 ∧ (l.getD a 0).toNat = 0) ∨ (f = 0 ∧ 1 < (l.getD a 0).toNat)) ∧
      (((l.getD a 0).toNat < 128 ∧ x = acc + (l.getD a 0).toNat * 128 ^ (9 - f) ∧ b = a + 1) ∨ (128 ≤ (l.getD a 0).toNat ∧ numR l f (a + 1) (acc + ((l.getD a 0).toNat - 128) * 128 ^ (9 - f)) = (x, b, 0))) := by
    intro f a acc x b h
    have h : (if _ then _ else _ : Nat × Nat × Nat) = (x, b, 0) := h
    by_cases h1 : l.length ≤ a
    · rw [if_pos h1] at h; simp at h
    · rw [if_neg h1] at h
      by_cases h2 : (f < 9 ∧ (l.getD a 0).toNat = 0) ∨ (f = 0 ∧ 1 < (l.getD a 0).toNat)
      · rw [if_pos h2] at h; simp at h
      · rw [if_neg h2] at h
        refine ⟨by omega, h2, ?_⟩
        by_cases h3 : (l.getD a 0).toNat < 128
        · rw [if_pos h3] at h
          simp only [Prod.mk.injEq] at h
          exact .inl ⟨h3, h.1.symm, h.2.1.symm⟩
        · rw [if_neg h3] at h
          exact .inr ⟨by omega, h⟩
  induction f with
  | zero =>
    intro a acc x b _ h
    obtain ⟨h1, h2, h3⟩ := start 0 a acc x b h
    rcases h3 with ⟨h3, rfl, rfl⟩ | ⟨h3, _⟩
    · refine ⟨(l.getD a 0).toNat, rfl, by omega, by omega, ?_, by omega⟩
      rw [vintF_last _ _ (by omega), take_one h1]
      simp
    · exfalso; omega
  | succ f ih =>
    intro a acc x b hf h
    obtain ⟨h1, h2, h3⟩ := start (f + 1) a acc x b h
    have hcl := (l.getD a 0).toNat_lt
    rcases h3 with ⟨h3, rfl, rfl⟩ | ⟨h3, h4⟩
    · refine ⟨(l.getD a 0).toNat, rfl, by omega, by omega, ?_, by omega⟩
      rw [vintF_last _ _ (by omega), take_one h1]
      simp
    · obtain ⟨z, hx, hb, hab, ht, hz⟩ := ih _ _ _ _ (by omega) h4
      have hz := hz (by omega)
      refine ⟨z * 128 + ((l.getD a 0).toNat - 128), ?_, hb, by omega, ?_, by omega⟩
      · rw [hx, p128 f hf, Nat.add_mul, ← Nat.mul_assoc]; omega
      · rw [vintF_more _ _ (by omega), take_step h1 (by omega), ht]
        rw [show (z * 128 + ((l.getD a 0).toNat - 128)) / 128 = z by omega, show (z * 128 + ((l.getD a 0).toNat - 128)) % 128 + 128 = (l.getD a 0).toNat by omega]
        simp

theorem num_back (l rest : List UInt8) (a x : Nat) (hx : x < 18446744073709551616) (hd : l.drop a = vint x ++ rest) : numR l 10 a 0 = (x, a + (vint x).length, 0) := by
  have := numR_vint l rest 9 a 0 x (by omega) hd (by simpa using hx) (by omega)
  simpa [vint] using this
theorem num_cut (l : List UInt8) (a x k : Nat) (hx : x < 18446744073709551616) (hd : l.drop a = (vint x).take k) (hk : k < (vint x).length) : (numR l 10 a 0).2.2 = 21 :=
  numR_short l 9 a 0 x k (by omega) hd hk (by simpa using hx)
theorem num_form (l : List UInt8) (a x b : Nat) (h : numR l 10 a 0 = (x, b, 0)) : b ≤ l.length ∧ a < b ∧ (l.take b).drop a = vint x := by
  obtain ⟨z, hx, h1, h2, h3, _⟩ := numR_form l 9 a 0 x b (by omega) h
  have : x = z := by simpa using hx
  subst this
  exact ⟨h1, h2, h3⟩
theorem unzig_zig (y : Int) : unzig (zig y) = y := by
  unfold zig unzig
  by_cases h : 0 ≤ y
  · rw [if_pos h, if_pos (by omega)]; omega
  · rw [if_neg h, if_neg (by omega)]; omega
theorem zig_unzig (x : Nat) : zig (unzig x) = x := by
  unfold unzig
  by_cases h : x % 2 = 0
  · rw [if_pos h]; unfold zig; rw [if_pos (by omega)]; omega
  · rw [if_neg h]; unfold zig; rw [if_neg (by omega)]; omega
theorem drop_len {l s : List UInt8} {a : Nat} (h : l.drop a = s) (hs : 0 < s.length) : l.length = a + s.length := by
  subst h; simp at hs ⊢; omega
theorem right_form {k num : Int} {t : List UInt8} {b : Bool} (h : rightB ⟨k, num, t, b⟩ = true) :
    (k = 1 ∧ 0 ≤ num ∧ t = [] ∧ b = false) ∨ (k = 2 ∧ t = [] ∧ b = false) ∨ (k = 3 ∧ num = 0 ∧ b = false) ∨ (k = 4 ∧ num = 0 ∧ t = []) := by
  unfold rightB at h
  simp only at h
  by_cases h1 : k = 1
  · rw [if_pos h1] at h; simp at h; exact .inl ⟨h1, h.1.1, h.1.2, h.2⟩
  · by_cases h2 : k = 2
    · rw [if_neg h1, if_pos h2] at h; simp at h; exact .inr (.inl ⟨h2, h.1, h.2⟩)
    · by_cases h3 : k = 3
      · rw [if_neg h1, if_neg h2, if_pos h3] at h; simp at h; exact .inr (.inr (.inl ⟨h3, h.1, h.2⟩))
      · by_cases h4 : k = 4
        · rw [if_neg h1, if_neg h2, if_neg h3, if_pos h4] at h; simp at h; exact .inr (.inr (.inr ⟨h4, h.1, h.2⟩))
        · rw [if_neg h1, if_neg h2, if_neg h3, if_neg h4] at h; cases h
theorem vint_flag (b : Bool) : vint (flagN b) = [if b then 1 else 0] := by cases b <;> rfl

theorem fieldR1 (l : List UInt8) (a : Nat) : fieldR l 1 a = if (numR l 10 a 0).2.2 ≠ 0 then (⟨1, 0, [], false⟩, a, (numR l 10 a 0).2.2) else if 9223372036854775807 < (numR l 10 a 0).1 then (⟨1, 0, [], false⟩, a, 20) else (⟨1, (numR l 10 a 0).1, [], false⟩, (numR l 10 a 0).2.1, 0) := by
  unfold fieldR; rw [if_pos rfl]
theorem fieldR2 (l : List UInt8) (a : Nat) : fieldR l 2 a = if (numR l 10 a 0).2.2 ≠ 0 then (⟨2, 0, [], false⟩, a, (numR l 10 a 0).2.2) else (⟨2, unzig (numR l 10 a 0).1, [], false⟩, (numR l 10 a 0).2.1, 0) := by
  unfold fieldR; rw [if_neg (by decide), if_pos rfl]
theorem fieldR3 (l : List UInt8) (a : Nat) : fieldR l 3 a = if (textR l a).2.2 ≠ 0 then (⟨3, 0, [], false⟩, a, (textR l a).2.2) else (⟨3, 0, (textR l a).1, false⟩, (textR l a).2.1, 0) := by
  unfold fieldR; rw [if_neg (by decide), if_neg (by decide), if_pos rfl]
theorem fieldR4 (l : List UInt8) (a : Nat) : fieldR l 4 a = if l.length ≤ a then (⟨4, 0, [], false⟩, a, 21) else if 1 < (l.getD a 0).toNat then (⟨4, 0, [], false⟩, a, 20) else (⟨4, 0, [], (l.getD a 0).toNat == 1⟩, a + 1, 0) := by
  unfold fieldR; rw [if_neg (by decide), if_neg (by decide), if_neg (by decide), if_pos rfl]
/-- a field is read back -/
theorem field_back (l rest : List UInt8) (f : Fld) (a : Nat) (hr : rightB f = true) (hok : FldOk f) (hd : l.drop a = fbytes f ++ rest) : fieldR l f.kind a = (f, a + (fbytes f).length, 0) := by
  obtain ⟨k, num, t, b⟩ := f
  obtain ⟨o1, o2, o3⟩ := hok
  simp only at o1 o2 o3
  rcases right_form hr with ⟨rfl, hn, rfl, rfl⟩ | ⟨rfl, rfl, rfl⟩ | ⟨rfl, rfl, rfl⟩ | ⟨rfl, rfl, rfl⟩
  · have hb : fbytes ⟨1, num, [], false⟩ = vint num.toNat := by simp [fbytes]
    rw [hb] at hd ⊢
    have hnb := num_back l rest a num.toNat (by omega) hd
    show fieldR l 1 a = _
    rw [fieldR1, hnb]
    simp only
    rw [if_neg (by simp), if_neg (by omega)]
    simp; omega
  · have hb : fbytes ⟨2, num, [], false⟩ = vint (zig num) := by simp [fbytes]
    rw [hb] at hd ⊢
    have hnb := num_back l rest a (zig num) (zig_lt num o1 o2) hd
    show fieldR l 2 a = _
    rw [fieldR2, hnb]
    simp [unzig_zig]
  · have hb : fbytes ⟨3, 0, t, false⟩ = vint t.length ++ t := by simp [fbytes]
    rw [hb] at hd ⊢
    rw [List.append_assoc] at hd
    have hnb := num_back l (t ++ rest) a t.length (by omega) hd
    have hd2 : l.drop (a + (vint t.length).length) = t ++ rest := by
      rw [← List.drop_drop, hd, List.drop_left]
    have hll : t.length ≤ l.length - (a + (vint t.length).length) := by
      have := congrArg List.length hd2
      simp at this; omega
    have htr : textR l a = (t, a + (vint t.length).length + t.length, 0) := by
      unfold textR
      rw [hnb]
      simp only
      rw [if_neg (by simp), if_neg (by omega), ← List.take_drop, hd2, List.take_left]
    show fieldR l 3 a = _
    rw [fieldR3, htr]
    simp; omega
  · have hb : fbytes ⟨4, 0, [], b⟩ = [if b then 1 else 0] := by simp [fbytes, vint_flag]
    rw [hb] at hd ⊢
    obtain ⟨h1, h2, h3⟩ := drop_cons hd
    show fieldR l 4 a = _
    rw [fieldR4, if_neg (by omega), h2]
    cases b <;> simp
/-- a field that is cut off is too short -/
theorem field_cut (l : List UInt8) (f : Fld) (a k : Nat) (hr : rightB f = true) (hok : FldOk f) (hd : l.drop a = (fbytes f).take k) (hk : k < (fbytes f).length) : (fieldR l f.kind a).2.2 = 21 := by
  obtain ⟨kd, num, t, b⟩ := f
  obtain ⟨o1, o2, o3⟩ := hok
  simp only at o1 o2 o3
  rcases right_form hr with ⟨rfl, hn, rfl, rfl⟩ | ⟨rfl, rfl, rfl⟩ | ⟨rfl, rfl, rfl⟩ | ⟨rfl, rfl, rfl⟩
  · have hb : fbytes ⟨1, num, [], false⟩ = vint num.toNat := by simp [fbytes]
    rw [hb] at hd hk
    have hnb := num_cut l a num.toNat k (by omega) hd hk
    show (fieldR l 1 a).2.2 = 21
    rw [fieldR1, if_pos (by rw [hnb]; decide), hnb]
  · have hb : fbytes ⟨2, num, [], false⟩ = vint (zig num) := by simp [fbytes]
    rw [hb] at hd hk
    have hnb := num_cut l a (zig num) k (zig_lt num o1 o2) hd hk
    show (fieldR l 2 a).2.2 = 21
    rw [fieldR2, if_pos (by rw [hnb]; decide), hnb]
  · have hb : fbytes ⟨3, 0, t, false⟩ = vint t.length ++ t := by simp [fbytes]
    rw [hb] at hd hk
    have htr : (textR l a).2.2 = 21 := by
      by_cases hkv : k < (vint t.length).length
      · rw [List.take_append_of_le_length (by omega)] at hd
        have hnb := num_cut l a t.length k (by omega) hd hkv
        unfold textR
        rw [if_pos (by rw [hnb]; decide), hnb]
      · rw [List.take_append, List.take_of_length_le (by omega)] at hd
        have hnb := num_back l _ a t.length (by omega) hd
        have hll : l.length - (a + (vint t.length).length) < t.length := by
          have := congrArg List.length hd
          simp at this hk
          omega
        unfold textR
        rw [hnb]
        simp only
        rw [if_neg (by simp), if_pos hll]
    show (fieldR l 3 a).2.2 = 21
    rw [fieldR3, if_pos (by rw [htr]; decide), htr]
  · have hb : fbytes ⟨4, 0, [], b⟩ = [if b then 1 else 0] := by simp [fbytes, vint_flag]
    rw [hb] at hd hk
    obtain rfl : k = 0 := by simpa using hk
    have hla : l.length ≤ a := by
      rcases Nat.lt_or_ge a l.length with h1 | h1
      · rw [List.drop_eq_getElem_cons h1] at hd; cases hd
      · exact h1
    show (fieldR l 4 a).2.2 = 21
    rw [fieldR4, if_pos hla]
/-- what is read as a field is that field's bytes -/
theorem field_form (l : List UInt8) (k : Int) (a b : Nat) (f : Fld) (ha : a ≤ l.length) (h : fieldR l k a = (f, b, 0)) :
    rightB f = true ∧ b ≤ l.length ∧ a ≤ b ∧ (l.take b).drop a = fbytes f ∧ -9223372036854775808 ≤ f.num ∧ f.num < 9223372036854775808 ∧ f.text.length ≤ l.length := by
  unfold fieldR at h
  by_cases h1 : k = 1
  · rw [if_pos h1] at h
    cases hn : numR l 10 a 0 with
    | mk x r =>
      obtain ⟨b', c⟩ := r
      rw [hn] at h
      simp only at h
      by_cases hc : c ≠ 0
      · rw [if_pos hc] at h; simp at h; exact absurd h.2.2 hc
      · have hc : c = 0 := by omega
        subst hc
        rw [if_neg (by simp)] at h
        by_cases hb : 9223372036854775807 < x
        · rw [if_pos hb] at h; simp at h
        · rw [if_neg hb] at h
          simp only [Prod.mk.injEq] at h
          obtain ⟨rfl, rfl, _⟩ := h
          obtain ⟨f1, f2, f3⟩ := num_form l a x b' hn
          refine ⟨by simp [rightB], f1, by omega, by rw [f3]; simp [fbytes], ?_, ?_, by simp⟩
          · show (-9223372036854775808 : Int) ≤ (x : Int); omega
          · show (x : Int) < 9223372036854775808; omega
  · rw [if_neg h1] at h
    by_cases h2 : k = 2
    · rw [if_pos h2] at h
      have hlt := numR_lt l 9 a 0 (by omega) (by simp)
      cases hn : numR l 10 a 0 with
      | mk x r =>
        obtain ⟨b', c⟩ := r
        rw [hn] at h hlt
        simp only at h hlt
        by_cases hc : c ≠ 0
        · rw [if_pos hc] at h; simp at h; exact absurd h.2.2 hc
        · have hc : c = 0 := by omega
          subst hc
          rw [if_neg (by simp)] at h
          simp only [Prod.mk.injEq] at h
          obtain ⟨rfl, rfl, _⟩ := h
          obtain ⟨f1, f2, f3⟩ := num_form l a x b' hn
          have hz := zig_unzig x
          have hb : -9223372036854775808 ≤ unzig x ∧ unzig x < 9223372036854775808 := by
            unfold unzig
            by_cases hx : x % 2 = 0
            · rw [if_pos hx]; omega
            · rw [if_neg hx]; omega
          refine ⟨by simp [rightB], f1, by omega, by rw [f3]; simp [fbytes, hz], hb.1, hb.2, by simp⟩
    · rw [if_neg h2] at h
      by_cases h3 : k = 3
      · rw [if_pos h3] at h
        have ht : ∀ u b' c, textR l a = (u, b', c) → c = 0 → b' ≤ l.length ∧ a ≤ b' ∧ (l.take b').drop a = vint u.length ++ u ∧ u.length ≤ l.length := by
          intro u b' c hu hc
          unfold textR at hu
          cases hn : numR l 10 a 0 with
          | mk x r =>
            obtain ⟨b2, c2⟩ := r
            rw [hn] at hu
            simp only at hu
            by_cases hc2 : c2 ≠ 0
            · rw [if_pos hc2] at hu; simp at hu; omega
            · have hc2 : c2 = 0 := by omega
              subst hc2
              rw [if_neg (by simp)] at hu
              by_cases hb : l.length - b2 < x
              · rw [if_pos hb] at hu; simp at hu; omega
              · rw [if_neg hb] at hu
                simp only [Prod.mk.injEq] at hu
                obtain ⟨rfl, rfl, _⟩ := hu
                obtain ⟨f1, f2, f3⟩ := num_form l a x b2 hn
                have hul : ((l.take (b2 + x)).drop b2).length = x := by simp; omega
                refine ⟨by omega, by omega, ?_, by omega⟩
                rw [hul, ← f3]
                have e1 : l.take (b2 + x) = l.take b2 ++ (l.take (b2 + x)).drop b2 := by
                  conv => lhs; rw [← List.take_append_drop b2 (l.take (b2 + x)), List.take_take, Nat.min_eq_left (by omega)]
                conv => lhs; rw [e1]
                rw [List.drop_append_of_le_length (by simp; omega)]
        cases hu : textR l a with
        | mk u r =>
          obtain ⟨b', c⟩ := r
          rw [hu] at h
          simp only at h
          by_cases hc : c ≠ 0
          · rw [if_pos hc] at h; simp at h; exact absurd h.2.2 hc
          · have hc : c = 0 := by omega
            rw [if_neg (by simpa using hc)] at h
            simp only [Prod.mk.injEq] at h
            obtain ⟨rfl, rfl, _⟩ := h
            obtain ⟨f1, f2, f3, f4⟩ := ht u b' c hu hc
            exact ⟨by simp [rightB], f1, f2, by rw [f3]; simp [fbytes], by show (-9223372036854775808 : Int) ≤ 0; decide, by show (0 : Int) < 9223372036854775808; decide, f4⟩
      · rw [if_neg h3] at h
        by_cases h4 : k = 4
        · rw [if_pos h4] at h
          by_cases hla : l.length ≤ a
          · rw [if_pos hla] at h; simp at h
          · rw [if_neg hla] at h
            by_cases hb : 1 < (l.getD a 0).toNat
            · rw [if_pos hb] at h; simp at h
            · rw [if_neg hb] at h
              simp only [Prod.mk.injEq] at h
              obtain ⟨rfl, rfl, _⟩ := h
              refine ⟨by simp [rightB], by omega, by omega, ?_, by show (-9223372036854775808 : Int) ≤ 0; decide, by show (0 : Int) < 9223372036854775808; decide, by simp⟩
              rw [take_one (by omega)]
              simp only [fbytes]
              rw [if_neg (by decide), if_neg (by decide), if_neg (by decide), vint_flag]
              congr 1
              have : (l.getD a 0).toNat = 0 ∨ (l.getD a 0).toNat = 1 := by omega
              rcases this with h | h
              · rw [h]; apply UInt8.toNat_inj.1; rw [h]; rfl
              · rw [h]; apply UInt8.toNat_inj.1; rw [h]; rfl
        · rw [if_neg h4] at h; simp at h

/-- rows of fields: read back -/
theorem read_back (l rest : List UInt8) (fs : List Fld) : ∀ acc a, (∀ f ∈ fs, rightB f = true) → (∀ f ∈ fs, FldOk f) → l.drop a = fs.flatMap fbytes ++ rest →
    readF l (fs.map Fld.kind) acc a = (acc ++ fs, a + (fs.flatMap fbytes).length, 0) := by
  induction fs with
  | nil => intro acc a _ _ _; simp [readF]
  | cons f r ih =>
    intro acc a hr hok hd
    rw [List.flatMap_cons, List.append_assoc] at hd
    have h1 := field_back l _ f a (hr f List.mem_cons_self) (hok f List.mem_cons_self) hd
    show (if _ then _ else _) = _
    rw [h1, if_neg (by simp)]
    simp only
    rw [ih _ _ (fun g hg => hr g (List.mem_cons_of_mem _ hg)) (fun g hg => hok g (List.mem_cons_of_mem _ hg)) (by rw [← List.drop_drop, hd, List.drop_left])]
    rw [List.flatMap_cons, List.length_append]
    simp; omega
theorem read_cut (l : List UInt8) (fs : List Fld) : ∀ acc a k, (∀ f ∈ fs, rightB f = true) → (∀ f ∈ fs, FldOk f) → l.drop a = (fs.flatMap fbytes).take k → k < (fs.flatMap fbytes).length →
    readF l (fs.map Fld.kind) acc a = ([], 0, 21) := by
  induction fs with
  | nil => intro acc a k _ _ _ hk; simp at hk
  | cons f r ih =>
    intro acc a k hr hok hd hk
    rw [List.flatMap_cons] at hd hk
    show (if _ then _ else _) = _
    by_cases hkf : k < (fbytes f).length
    · rw [List.take_append_of_le_length (by omega)] at hd
      have h1 := field_cut l f a k (hr f List.mem_cons_self) (hok f List.mem_cons_self) hd hkf
      rw [if_pos (by rw [h1]; decide), h1]
    · rw [List.take_append, List.take_of_length_le (by omega)] at hd
      have h1 := field_back l _ f a (hr f List.mem_cons_self) (hok f List.mem_cons_self) hd
      rw [h1, if_neg (by simp)]
      simp only
      refine ih _ _ (k - (fbytes f).length) (fun g hg => hr g (List.mem_cons_of_mem _ hg)) (fun g hg => hok g (List.mem_cons_of_mem _ hg)) (by rw [← List.drop_drop, hd, List.drop_left]) ?_
      rw [List.length_append] at hk; omega
theorem read_form (l : List UInt8) (ks : List Int) : ∀ acc a fs b, a ≤ l.length → readF l ks acc a = (fs, b, 0) → ∃ gs, fs = acc ++ gs ∧ b ≤ l.length ∧ a ≤ b ∧ (l.take b).drop a = gs.flatMap fbytes ∧
    ∀ g ∈ gs, rightB g = true ∧ -9223372036854775808 ≤ g.num ∧ g.num < 9223372036854775808 ∧ g.text.length ≤ l.length := by
  induction ks with
  | nil =>
    intro acc a fs b ha h
    simp only [readF, Prod.mk.injEq] at h
    obtain ⟨rfl, rfl, _⟩ := h
    refine ⟨[], by simp, ha, Nat.le_refl _, ?_, by simp⟩
    rw [List.drop_eq_nil_of_le (by simp; omega)]; rfl
  | cons k r ih =>
    intro acc a fs b ha h
    have h : (if _ then _ else _ : List Fld × Nat × Nat) = (fs, b, 0) := h
    cases hf : fieldR l k a with
    | mk f q =>
      obtain ⟨b1, c⟩ := q
      rw [hf] at h
      simp only at h
      by_cases hc : c ≠ 0
      · rw [if_pos hc] at h; simp at h; exact absurd h.2.2 hc
      · have hc : c = 0 := by omega
        subst hc
        rw [if_neg (by simp)] at h
        obtain ⟨g1, g2, g3, g4, g5, g6, g7⟩ := field_form l k a b1 f ha hf
        obtain ⟨gs, h1, h2, h3, h4, h5⟩ := ih _ _ _ _ g2 h
        refine ⟨f :: gs, by rw [h1]; simp, h2, by omega, ?_, ?_⟩
        · have e1 : l.take b = l.take b1 ++ (l.take b).drop b1 := by
            conv => lhs; rw [← List.take_append_drop b1 (l.take b), List.take_take, Nat.min_eq_left (by omega)]
          rw [e1, List.drop_append_of_le_length (by simp; omega), g4, h4]
          simp
        · intro g hg
          rcases List.mem_cons.1 hg with rfl | hg
          · exact ⟨g1, g5, g6, g7⟩
          · exact h5 g hg

end Go.Proofs.YtgnpjenpehfjbaaDoor

namespace Go.Proofs.YtgnpjenpehfjbaaDoor

theorem openF_frame (a b c0 c1 c2 c3 : UInt8) (body rest : List UInt8) (hn : body.length = a.toNat + 256 * b.toNat) :
    openF (237 :: 91 :: a :: b :: (body ++ c0 :: c1 :: c2 :: c3 :: rest)) = if crc (a :: b :: body) ≠ rd32 c0 c1 c2 c3 then ([], 0, 22) else (body, body.length + 8, 0) := by
  have hlen : (237 :: 91 :: a :: b :: (body ++ c0 :: c1 :: c2 :: c3 :: rest)).length = body.length + rest.length + 8 := by simp; omega
  have hbl : bodyLen (237 :: 91 :: a :: b :: (body ++ c0 :: c1 :: c2 :: c3 :: rest)) = body.length := by unfold bodyLen; simp [hn]
  have hbad : ¬ badForm (237 :: 91 :: a :: b :: (body ++ c0 :: c1 :: c2 :: c3 :: rest)) := by unfold badForm; simp
  have htake : (237 :: 91 :: a :: b :: (body ++ c0 :: c1 :: c2 :: c3 :: rest)).take (4 + body.length) = 237 :: 91 :: a :: b :: body := by
    rw [Nat.add_comm]; simp
  have hsum : sumAt (237 :: 91 :: a :: b :: (body ++ c0 :: c1 :: c2 :: c3 :: rest)) (4 + body.length) = rd32 c0 c1 c2 c3 := by
    have g : ∀ j, (237 :: 91 :: a :: b :: (body ++ c0 :: c1 :: c2 :: c3 :: rest)).getD (4 + body.length + j) 0 = (c0 :: c1 :: c2 :: c3 :: rest).getD j 0 := fun j => by
      rw [show 4 + body.length + j = (body.length + j) + 4 by omega]
      simp only [List.getD_eq_getElem?_getD, List.getElem?_cons_succ]
      rw [List.getElem?_append_right (by omega), show body.length + j - body.length = j by omega]
    unfold sumAt
    rw [show 4 + body.length = 4 + body.length + 0 from rfl, g 0, g 1, show 4 + body.length + 0 + 2 = 4 + body.length + 2 from rfl, g 2, g 3]
    rfl
  unfold openF
  rw [if_neg hbad, hlen, if_neg (by omega), hbl, if_neg (by omega), htake, hsum]
  rfl

theorem len2_at (n : Nat) (h : n ≤ 65535) : n = (UInt8.ofNat (n % 256)).toNat + 256 * (UInt8.ofNat (n / 256)).toNat := by
  have e1 : (UInt8.ofNat (n % 256)).toNat = n % 256 := by simp
  have e2 : (UInt8.ofNat (n / 256)).toNat = n / 256 := by simp; omega
  rw [e1, e2]; omega

theorem frameOf_len (l : List UInt8) : (frameOf l).length = l.length + 8 := by unfold frameOf len2 le32; simp

theorem open_frame (l rest : List UInt8) (h : l.length ≤ 65535) : openF (frameOf l ++ rest) = (l, l.length + 8, 0) := by
  have e : frameOf l ++ rest = 237 :: 91 :: UInt8.ofNat (l.length % 256) :: UInt8.ofNat (l.length / 256) :: (l ++ (le32 (crc (len2 l.length ++ l))).getD 0 0 :: (le32 (crc (len2 l.length ++ l))).getD 1 0 :: (le32 (crc (len2 l.length ++ l))).getD 2 0 :: (le32 (crc (len2 l.length ++ l))).getD 3 0 :: rest) := by
    unfold frameOf
    generalize crc (len2 l.length ++ l) = s
    simp [len2, le32]
  rw [e, openF_frame _ _ _ _ _ _ l rest (len2_at _ h), rd32_le32, if_neg (by simp [len2])]

theorem open_cut (l : List UInt8) (k : Nat) (h : l.length ≤ 65535) (hk : k < l.length + 8) : openF ((frameOf l).take k) = ([], 0, 21) := by
  have hl : ((frameOf l).take k).length = k := by rw [List.length_take, frameOf_len]; omega
  have g : ∀ j, j < k → ((frameOf l).take k).getD j 0 = (frameOf l).getD j 0 := fun j hj => by
    simp only [List.getD_eq_getElem?_getD]; rw [List.getElem?_take_of_lt hj]
  have hbad : ¬ badForm ((frameOf l).take k) := by
    unfold badForm
    rw [hl]
    rintro (⟨h1, h2⟩ | ⟨h1, h2⟩)
    · rw [g 0 h1] at h2; exact h2 rfl
    · rw [g 1 h1] at h2; exact h2 rfl
  unfold openF
  rw [if_neg hbad, hl]
  by_cases h4 : k < 4
  · rw [if_pos h4]
  · rw [if_neg h4]
    have hb : bodyLen ((frameOf l).take k) = l.length := by
      unfold bodyLen
      rw [g 2 (by omega), g 3 (by omega)]
      exact (len2_at _ h).symm
    rw [hb, if_pos (by omega)]

end Go.Proofs.YtgnpjenpehfjbaaDoor

namespace Go.Proofs.YtgnpjenpehfjbaaDoor
open Go.RowKit

set_option maxRecDepth 100000 in
set_option maxHeartbeats 8000000 in
theorem same_any (p q : Pkt) (v u : Value) (w : World) (hv : Ims w w.heap.size v p.items) (hu : Ims w w.heap.size u q.items) :
    Calls Tryd.prog 25 #[.agg (p.cells v).toArray, .agg (q.cells u).toArray] w fun e w' => e = .returned (.bool (sameP p q)) ∧ Below w.heap.size w w' := by
  obtain ⟨v1, c1, rfl, h1, h2⟩ := hv.slice
  obtain ⟨v2, c2, rfl, h3, h4⟩ := hu.slice
  have HV := Lib.hid hv
  have HU := Lib.hid hu
  clear hv hu h1 h2 h3 h4
  obtain ⟨R, hR⟩ : ∃ R, R = sameP p q := ⟨_, rfl⟩
  rw [← hR]
  obtain ⟨a0, a1, a2, a3, a4, a5, a6, xs⟩ := p
  obtain ⟨b0x, b1x, b2x, b3x, b4x, b5x, b6x, ys⟩ := q
  simp only at HV HU
  show Calls _ _ #[.agg #[.int .i64 a0, .int .i64 a1, .int .i64 a2, .int .i64 a3, .int .i64 a4, .int .i64 a5, .int .i64 a6, .slice v1 xs.length c1], .agg #[.int .i64 b0x, .int .i64 b1x, .int .i64 b2x, .int .i64 b3x, .int .i64 b4x, .int .i64 b5x, .int .i64 b6x, .slice v2 ys.length c2]] w _
  obtain ⟨n, hn⟩ : ∃ n, n = xs.length := ⟨_, rfl⟩
  obtain ⟨m, hm⟩ : ∃ n, n = ys.length := ⟨_, rfl⟩
  rw [← hn] at HV ⊢
  rw [← hm] at HU ⊢
  clear hn hm
  by_cases h0 : a0 = b0x
  case neg =>
    clear HV HU
    have hr : R = false := by rw [hR]; simp [sameP, sameH, h0]
    clear hR
    subst hr
    go_enter Tryd.func25, Tryd.ntmps25
    go_wp2
    go_ret
    exact ⟨rfl, ((Below.refl _ _).alloc (Nat.le_refl _) _).alloc (by simp) _⟩
  subst h0
  by_cases h1 : a1 = b1x
  case neg =>
    clear HV HU
    have hr : R = false := by rw [hR]; simp [sameP, sameH, h1]
    clear hR
    subst hr
    go_enter Tryd.func25, Tryd.ntmps25
    go_wp2
    go_ret
    exact ⟨rfl, ((Below.refl _ _).alloc (Nat.le_refl _) _).alloc (by simp) _⟩
  subst h1
  by_cases h2 : a2 = b2x
  case neg =>
    clear HV HU
    have hr : R = false := by rw [hR]; simp [sameP, sameH, h2]
    clear hR
    subst hr
    go_enter Tryd.func25, Tryd.ntmps25
    go_wp2
    go_ret
    exact ⟨rfl, ((Below.refl _ _).alloc (Nat.le_refl _) _).alloc (by simp) _⟩
  subst h2
  by_cases h3 : a3 = b3x
  case neg =>
    clear HV HU
    have hr : R = false := by rw [hR]; simp [sameP, sameH, h3]
    clear hR
    subst hr
    go_enter Tryd.func25, Tryd.ntmps25
    go_wp2
    go_ret
    exact ⟨rfl, ((Below.refl _ _).alloc (Nat.le_refl _) _).alloc (by simp) _⟩
  subst h3
  by_cases h4 : a4 = b4x
  case neg =>
    clear HV HU
    have hr : R = false := by rw [hR]; simp [sameP, sameH, h4]
    clear hR
    subst hr
    go_enter Tryd.func25, Tryd.ntmps25
    go_wp2
    go_ret
    exact ⟨rfl, ((Below.refl _ _).alloc (Nat.le_refl _) _).alloc (by simp) _⟩
  subst h4
  by_cases h5 : a5 = b5x
  case neg =>
    clear HV HU
    have hr : R = false := by rw [hR]; simp [sameP, sameH, h5]
    clear hR
    subst hr
    go_enter Tryd.func25, Tryd.ntmps25
    go_wp2
    go_ret
    exact ⟨rfl, ((Below.refl _ _).alloc (Nat.le_refl _) _).alloc (by simp) _⟩
  subst h5
  by_cases h6 : a6 = b6x
  case neg =>
    clear HV HU
    have hr : R = false := by rw [hR]; simp [sameP, sameH, h6]
    clear hR
    subst hr
    go_enter Tryd.func25, Tryd.ntmps25
    go_wp2
    go_ret
    exact ⟨rfl, ((Below.refl _ _).alloc (Nat.le_refl _) _).alloc (by simp) _⟩
  subst h6
  have HR : Hid (R = sameL xs ys) := by show _ = _; rw [hR]; simp [sameP, sameH]
  clear hR
  obtain ⟨g1, k1⟩ := new_block w (.cells #[.int .i64 a0, .int .i64 a1, .int .i64 a2, .int .i64 a3, .int .i64 a4, .int .i64 a5, .int .i64 a6, .slice v1 n c1] 24)
  obtain ⟨g2, k2⟩ := new_block (w.alloc (.cells #[.int .i64 a0, .int .i64 a1, .int .i64 a2, .int .i64 a3, .int .i64 a4, .int .i64 a5, .int .i64 a6, .slice v1 n c1] 24)) (.cells #[.int .i64 a0, .int .i64 a1, .int .i64 a2, .int .i64 a3, .int .i64 a4, .int .i64 a5, .int .i64 a6, .slice v2 m c2] 24)
  have LB := Lib.hid (g1.trans (g2.mono g1.size))
  have hcon := Lib.hid (equal_any (.slice v1 n c1) (.slice v2 m c2) xs ys ((w.alloc (.cells #[.int .i64 a0, .int .i64 a1, .int .i64 a2, .int .i64 a3, .int .i64 a4, .int .i64 a5, .int .i64 a6, .slice v1 n c1] 24)).alloc (.cells #[.int .i64 a0, .int .i64 a1, .int .i64 a2, .int .i64 a3, .int .i64 a4, .int .i64 a5, .int .i64 a6, .slice v2 m c2] 24)) (HV.out.below LB.out LB.out.size) (HU.out.below LB.out LB.out.size))
  clear g1 g2 k1 k2
  go_enter Tryd.func25, Tryd.ntmps25
  go_wp2_with (fail)
  with_reducible refine hcon.out.mono ?_
  rintro e w1 ⟨rfl, hB⟩
  have L1 := LB.out.trans (hB.mono LB.out.size)
  rw [← HR.out]
  clear hcon hB
  go_wp2
  go_ret
  exact ⟨rfl, L1⟩

theorem fields_inj (fs gs : List Fld) (r1 r2 : List UInt8) (hk : fs.map Fld.kind = gs.map Fld.kind) (h1 : ∀ f ∈ fs, rightB f = true) (h2 : ∀ f ∈ fs, FldOk f) (h3 : ∀ f ∈ gs, rightB f = true) (h4 : ∀ f ∈ gs, FldOk f)
    (h : fs.flatMap fbytes ++ r1 = gs.flatMap fbytes ++ r2) : fs = gs ∧ r1 = r2 := by
  have e1 := read_back (fs.flatMap fbytes ++ r1) r1 fs [] 0 h1 h2 rfl
  have e2 := read_back (fs.flatMap fbytes ++ r1) r2 gs [] 0 h3 h4 h
  rw [hk, e2] at e1
  have e3 : gs = fs := by simpa using congrArg Prod.fst e1
  subst e3
  exact ⟨rfl, List.append_cancel_left h⟩
theorem headF_kinds (p : Pkt) : (headF p).map Fld.kind = [1, 1, 1, 1, 1, 1, 1, 1] := rfl
theorem itemF_kinds (x : Itm) : (itemF x).map Fld.kind = [3, 1, 1, 4, 1, 1, 1, 1, 2, 4, 2, 4, 2, 1, 1, 4, 2, 1, 1] := rfl
theorem itemF_inj {x y : Itm} (h : itemF x = itemF y) : x = y := by
  obtain ⟨a0, a1, a2, a3, a4, a5, a6, a7, a8, a9, a10, ⟨a11, a12, a13, a14⟩, ⟨a15, a16, a17, a18⟩⟩ := x
  obtain ⟨b0, b1, b2, b3, b4, b5, b6, b7, b8, b9, b10, ⟨b11, b12, b13, b14⟩, ⟨b15, b16, b17, b18⟩⟩ := y
  simp only [itemF, nF, List.cons.injEq, Fld.mk.injEq, true_and, and_true] at h
  simp only [Itm.mk.injEq, Xt.mk.injEq]
  simp only [and_assoc] at h ⊢
  exact h
theorem items_inj : ∀ (xs ys : List Itm) (r1 r2 : List UInt8), xs.length = ys.length → (∀ x ∈ xs, ItmOk x) → (∀ x ∈ ys, ItmOk x) → xs.flatMap itemB ++ r1 = ys.flatMap itemB ++ r2 → xs = ys
  | [], [], _, _, _, _, _, _ => rfl
  | [], y :: ys, _, _, h, _, _, _ => by simp at h
  | x :: xs, [], _, _, h, _, _, _ => by simp at h
  | x :: xs, y :: ys, r1, r2, h, h1, h2, he => by
    rw [List.flatMap_cons, List.flatMap_cons, List.append_assoc, List.append_assoc] at he
    have hx := itemF_ok (h1 x List.mem_cons_self)
    have hy := itemF_ok (h2 y List.mem_cons_self)
    obtain ⟨e1, e2⟩ := fields_inj (itemF x) (itemF y) _ _ (by rw [itemF_kinds, itemF_kinds]) hx.1 hx.2 hy.1 hy.2 he
    rw [itemF_inj e1, items_inj xs ys r1 r2 (by simpa using h) (fun z hz => h1 z (List.mem_cons_of_mem _ hz)) (fun z hz => h2 z (List.mem_cons_of_mem _ hz)) e2]
theorem bodyB_inj {p q : Pkt} (hp : fitP p = true) (hq : fitP q = true) (h : bodyB p = bodyB q) : p = q := by
  unfold bodyB at h
  have h1 := headF_ok hp
  have h2 := headF_ok hq
  obtain ⟨e1, e2⟩ := fields_inj (headF p) (headF q) _ _ (by rw [headF_kinds, headF_kinds]) h1.1 h1.2 h2.1 h2.2 h
  have e3 : p.items.flatMap itemB = q.items.flatMap itemB := e2
  obtain ⟨a0, a1, a2, a3, a4, a5, a6, xs⟩ := p
  obtain ⟨b0, b1, b2, b3, b4, b5, b6, ys⟩ := q
  simp only [headF, nF, List.cons.injEq, Fld.mk.injEq, true_and, and_true] at e1
  obtain ⟨f0, f1, f2, f3, f4, f5, f6, f7⟩ := e1
  have e4 := items_inj xs ys [] [] (by omega) (fit_mem hp) (fit_mem hq) (by simpa using e3)
  subst f0 f1 f2 f3 f4 f5 f6 e4
  rfl
theorem frame_inj {l m : List UInt8} (hl : l.length ≤ 65535) (hm : m.length ≤ 65535) (h : frameOf l = frameOf m) : l = m := by
  have h1 := open_frame l [] hl
  have h2 := open_frame m [] hm
  rw [h, h2] at h1
  exact (congrArg Prod.fst h1).symm
theorem encB_inj {p q : Pkt} (hp : fitP p = true) (hq : fitP q = true) (h : encB p = encB q) : p = q := by
  unfold encB at h
  rw [hp, hq] at h
  exact bodyB_inj hp hq (frame_inj (by have := bodyB_len hp; omega) (by have := bodyB_len hq; omega) h)
theorem enc_same {p q : Pkt} (hp : fitP p = true) (hq : fitP q = true) : ((⟨(encB p).toArray⟩ : ByteArray) = ⟨(encB q).toArray⟩) ↔ sameP p q = true := by
  rw [str_eq, sameP_iff]
  constructor
  · exact encB_inj hp hq
  · rintro rfl; rfl

end Go.Proofs.YtgnpjenpehfjbaaDoor

