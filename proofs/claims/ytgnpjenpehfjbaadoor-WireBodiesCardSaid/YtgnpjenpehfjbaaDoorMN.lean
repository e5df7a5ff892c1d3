/- Numbers, fields, rows of fields: read back, cut off, in one form. No program here. -/
import Derived.Test.YtgnpjenpehfjbaaDoorMB
set_option linter.unusedSimpArgs false
set_option linter.unusedVariables false
namespace Go.Proofs.YtgnpjenpehfjbaaDoor

theorem p128 (f : Nat) (h : f + 1 ≤ 9) : 128 ^ (9 - f) = 128 * 128 ^ (9 - (f + 1)) := by
  rw [show 9 - f = (9 - (f + 1)) + 1 by omega, Nat.pow_succ, Nat.mul_comm]
theorem take_one {l : List UInt8} {a : Nat} (h : a < l.length) : (l.take (a + 1)).drop a = [l.getD a 0] := by
  rw [List.take_succ_eq_append_getElem h, List.drop_append_of_le_length (by simp; omega), List.drop_take]
  simp [List.getD, h]
theorem take_step {l : List UInt8} {a b : Nat} (h : a < l.length) (hb : a + 1 ≤ b) : (l.take b).drop a = l.getD a 0 :: (l.take b).drop (a + 1) := by
  rw [List.drop_eq_getElem_cons (by simp; omega)]
  congr 1
  simp [List.getD, h]
/-- what is read as a number is that number's bytes -/
theorem numR_form (l : List UInt8) (f : Nat) : ∀ a acc x b, f ≤ 9 → numR l (f + 1) a acc = (x, b, 0) → ∃ z, x = acc + z * 128 ^ (9 - f) ∧ b ≤ l.length ∧ a < b ∧ (l.take b).drop a = vintF (f + 1) z ∧ (f < 9 → 0 < z) := by
  have start : ∀ f a acc x b, numR l (f + 1) a acc = (x, b, 0) → a < l.length ∧ ¬ ((f < 9 ∧ (l.getD a 0).toNat = 0) ∨ (f = 0 ∧ 1 < (l.getD a 0).toNat)) ∧
      (((l.getD a 0).toNat < 128 ∧ x = acc + (l.getD a 0).toNat * 128 ^ (9 - f) ∧ b = a + 1) ∨ (128 ≤ (l.getD a 0).toNat ∧ numR l f (a + 1) (acc + ((l.getD a 0).toNat - 128) * 128 ^ (9 - f)) = (x, b, 0))) := by
    intro f a acc x b h
    have h : (if _ then _ else _ : Nat × Nat × Nat) = (x, b, 0) := h
    by_cases h1 : l.length ≤ a
    · rw [if_pos h1] at h; simp at h
    · rw [if_neg h1] at h
      by_cases h2 : (f < 9 ∧ (l.getD a 0).toNat = 0) ∨ (f = 0 ∧ 1 < (l.getD a 0).toNat)
      · rw [if_pos h2] at h; simp at h
      · rw [if_neg h2] at h
        refine ⟨by omega, h2, ?_⟩
        by_cases h3 : (l.getD a 0).toNat < 128
        · rw [if_pos h3] at h
          simp only [Prod.mk.injEq] at h
          exact .inl ⟨h3, h.1.symm, h.2.1.symm⟩
        · rw [if_neg h3] at h
          exact .inr ⟨by omega, h⟩
  induction f with
  | zero =>
    intro a acc x b _ h
    obtain ⟨h1, h2, h3⟩ := start 0 a acc x b h
    rcases h3 with ⟨h3, rfl, rfl⟩ | ⟨h3, _⟩
    · refine ⟨(l.getD a 0).toNat, rfl, by omega, by omega, ?_, by omega⟩
      rw [vintF_last _ _ (by omega), take_one h1]
      simp
    · exfalso; omega
  | succ f ih =>
    intro a acc x b hf h
    obtain ⟨h1, h2, h3⟩ := start (f + 1) a acc x b h
    have hcl := (l.getD a 0).toNat_lt
    rcases h3 with ⟨h3, rfl, rfl⟩ | ⟨h3, h4⟩
    · refine ⟨(l.getD a 0).toNat, rfl, by omega, by omega, ?_, by omega⟩
      rw [vintF_last _ _ (by omega), take_one h1]
      simp
    · obtain ⟨z, hx, hb, hab, ht, hz⟩ := ih _ _ _ _ (by omega) h4
      have hz := hz (by omega)
      refine ⟨z * 128 + ((l.getD a 0).toNat - 128), ?_, hb, by omega, ?_, by omega⟩
      · rw [hx, p128 f hf, Nat.add_mul, ← Nat.mul_assoc]; omega
      · rw [vintF_more _ _ (by omega), take_step h1 (by omega), ht]
        rw [show (z * 128 + ((l.getD a 0).toNat - 128)) / 128 = z by omega, show (z * 128 + ((l.getD a 0).toNat - 128)) % 128 + 128 = (l.getD a 0).toNat by omega]
        simp

theorem num_form (l : List UInt8) (a x b : Nat) (h : numR l 10 a 0 = (x, b, 0)) : b ≤ l.length ∧ a < b ∧ (l.take b).drop a = vint x := by
  obtain ⟨z, hx, h1, h2, h3, _⟩ := numR_form l 9 a 0 x b (by omega) h
  have : x = z := by simpa using hx
  subst this
  exact ⟨h1, h2, h3⟩
theorem zig_unzig (x : Nat) : zig (unzig x) = x := by
  unfold unzig
  by_cases h : x % 2 = 0
  · rw [if_pos h]; unfold zig; rw [if_pos (by omega)]; omega
  · rw [if_neg h]; unfold zig; rw [if_neg (by omega)]; omega
theorem vint_flag (b : Bool) : vint (flagN b) = [if b then 1 else 0] := by cases b <;> rfl

/-- what is read as a field is that field's bytes -/
theorem field_form (l : List UInt8) (k : Int) (a b : Nat) (f : Fld) (ha : a ≤ l.length) (h : fieldR l k a = (f, b, 0)) :
    rightB f = true ∧ b ≤ l.length ∧ a ≤ b ∧ (l.take b).drop a = fbytes f ∧ -9223372036854775808 ≤ f.num ∧ f.num < 9223372036854775808 ∧ f.text.length ≤ l.length := by
  unfold fieldR at h
  by_cases h1 : k = 1
  · rw [if_pos h1] at h
    cases hn : numR l 10 a 0 with
    | mk x r =>
      obtain ⟨b', c⟩ := r
      rw [hn] at h
      simp only at h
      by_cases hc : c ≠ 0
      · rw [if_pos hc] at h; simp at h; exact absurd h.2.2 hc
      · have hc : c = 0 := by omega
        subst hc
        rw [if_neg (by simp)] at h
        by_cases hb : 9223372036854775807 < x
        · rw [if_pos hb] at h; simp at h
        · rw [if_neg hb] at h
          simp only [Prod.mk.injEq] at h
          obtain ⟨rfl, rfl, _⟩ := h
          obtain ⟨f1, f2, f3⟩ := num_form l a x b' hn
          refine ⟨by simp [rightB], f1, by omega, by rw [f3]; simp [fbytes], ?_, ?_, by simp⟩
          · show (-9223372036854775808 : Int) ≤ (x : Int); omega
          · show (x : Int) < 9223372036854775808; omega
  · rw [if_neg h1] at h
    by_cases h2 : k = 2
    · rw [if_pos h2] at h
      have hlt := numR_lt l 9 a 0 (by omega) (by simp)
      cases hn : numR l 10 a 0 with
      | mk x r =>
        obtain ⟨b', c⟩ := r
        rw [hn] at h hlt
        simp only at h hlt
        by_cases hc : c ≠ 0
        · rw [if_pos hc] at h; simp at h; exact absurd h.2.2 hc
        · have hc : c = 0 := by omega
          subst hc
          rw [if_neg (by simp)] at h
          simp only [Prod.mk.injEq] at h
          obtain ⟨rfl, rfl, _⟩ := h
          obtain ⟨f1, f2, f3⟩ := num_form l a x b' hn
          have hz := zig_unzig x
          have hb : -9223372036854775808 ≤ unzig x ∧ unzig x < 9223372036854775808 := by
            unfold unzig
            by_cases hx : x % 2 = 0
            · rw [if_pos hx]; omega
            · rw [if_neg hx]; omega
          refine ⟨by simp [rightB], f1, by omega, by rw [f3]; simp [fbytes, hz], hb.1, hb.2, by simp⟩
    · rw [if_neg h2] at h
      by_cases h3 : k = 3
      · rw [if_pos h3] at h
        have ht : ∀ u b' c, textR l a = (u, b', c) → c = 0 → b' ≤ l.length ∧ a ≤ b' ∧ (l.take b').drop a = vint u.length ++ u ∧ u.length ≤ l.length := by
          intro u b' c hu hc
          unfold textR at hu
          cases hn : numR l 10 a 0 with
          | mk x r =>
            obtain ⟨b2, c2⟩ := r
            rw [hn] at hu
            simp only at hu
            by_cases hc2 : c2 ≠ 0
            · rw [if_pos hc2] at hu; simp at hu; omega
            · have hc2 : c2 = 0 := by omega
              subst hc2
              rw [if_neg (by simp)] at hu
              by_cases hb : l.length - b2 < x
              · rw [if_pos hb] at hu; simp at hu; omega
              · rw [if_neg hb] at hu
                simp only [Prod.mk.injEq] at hu
                obtain ⟨rfl, rfl, _⟩ := hu
                obtain ⟨f1, f2, f3⟩ := num_form l a x b2 hn
                have hul : ((l.take (b2 + x)).drop b2).length = x := by simp; omega
                refine ⟨by omega, by omega, ?_, by omega⟩
                rw [hul, ← f3]
                have e1 : l.take (b2 + x) = l.take b2 ++ (l.take (b2 + x)).drop b2 := by
                  conv => lhs; rw [← List.take_append_drop b2 (l.take (b2 + x)), List.take_take, Nat.min_eq_left (by omega)]
                conv => lhs; rw [e1]
                rw [List.drop_append_of_le_length (by simp; omega)]
        cases hu : textR l a with
        | mk u r =>
          obtain ⟨b', c⟩ := r
          rw [hu] at h
          simp only at h
          by_cases hc : c ≠ 0
          · rw [if_pos hc] at h; simp at h; exact absurd h.2.2 hc
          · have hc : c = 0 := by omega
            rw [if_neg (by simpa using hc)] at h
            simp only [Prod.mk.injEq] at h
            obtain ⟨rfl, rfl, _⟩ := h
            obtain ⟨f1, f2, f3, f4⟩ := ht u b' c hu hc
            exact ⟨by simp [rightB], f1, f2, by rw [f3]; simp [fbytes], by show (-9223372036854775808 : Int) ≤ 0; decide, by show (0 : Int) < 9223372036854775808; decide, f4⟩
      · rw [if_neg h3] at h
        by_cases h4 : k = 4
        · rw [if_pos h4] at h
          by_cases hla : l.length ≤ a
          · rw [if_pos hla] at h; simp at h
          · rw [if_neg hla] at h
            by_cases hb : 1 < (l.getD a 0).toNat
            · rw [if_pos hb] at h; simp at h
            · rw [if_neg hb] at h
              simp only [Prod.mk.injEq] at h
              obtain ⟨rfl, rfl, _⟩ := h
              refine ⟨by simp [rightB], by omega, by omega, ?_, by show (-9223372036854775808 : Int) ≤ 0; decide, by show (0 : Int) < 9223372036854775808; decide, by simp⟩
              rw [take_one (by omega)]
              simp only [fbytes]
              rw [if_neg (by decide), if_neg (by decide), if_neg (by decide), vint_flag]
              congr 1
              have : (l.getD a 0).toNat = 0 ∨ (l.getD a 0).toNat = 1 := by omega
              rcases this with h | h
              · rw [h]; apply UInt8.toNat_inj.1; rw [h]; rfl
              · rw [h]; apply UInt8.toNat_inj.1; rw [h]; rfl
        · rw [if_neg h4] at h; simp at h

theorem read_form (l : List UInt8) (ks : List Int) : ∀ acc a fs b, a ≤ l.length → readF l ks acc a = (fs, b, 0) → ∃ gs, fs = acc ++ gs ∧ b ≤ l.length ∧ a ≤ b ∧ (l.take b).drop a = gs.flatMap fbytes ∧
    ∀ g ∈ gs, rightB g = true ∧ -9223372036854775808 ≤ g.num ∧ g.num < 9223372036854775808 ∧ g.text.length ≤ l.length := by
  induction ks with
  | nil =>
    intro acc a fs b ha h
    simp only [readF, Prod.mk.injEq] at h
    obtain ⟨rfl, rfl, _⟩ := h
    refine ⟨[], by simp, ha, Nat.le_refl _, ?_, by simp⟩
    rw [List.drop_eq_nil_of_le (by simp; omega)]; rfl
  | cons k r ih =>
    intro acc a fs b ha h
    have h : (if _ then _ else _ : List Fld × Nat × Nat) = (fs, b, 0) := h
    cases hf : fieldR l k a with
    | mk f q =>
      obtain ⟨b1, c⟩ := q
      rw [hf] at h
      simp only at h
      by_cases hc : c ≠ 0
      · rw [if_pos hc] at h; simp at h; exact absurd h.2.2 hc
      · have hc : c = 0 := by omega
        subst hc
        rw [if_neg (by simp)] at h
        obtain ⟨g1, g2, g3, g4, g5, g6, g7⟩ := field_form l k a b1 f ha hf
        obtain ⟨gs, h1, h2, h3, h4, h5⟩ := ih _ _ _ _ g2 h
        refine ⟨f :: gs, by rw [h1]; simp, h2, by omega, ?_, ?_⟩
        · have e1 : l.take b = l.take b1 ++ (l.take b).drop b1 := by
            conv => lhs; rw [← List.take_append_drop b1 (l.take b), List.take_take, Nat.min_eq_left (by omega)]
          rw [e1, List.drop_append_of_le_length (by simp; omega), g4, h4]
          simp
        · intro g hg
          rcases List.mem_cons.1 hg with rfl | hg
          · exact ⟨g1, g5, g6, g7⟩
          · exact h5 g hg

end Go.Proofs.YtgnpjenpehfjbaaDoor

