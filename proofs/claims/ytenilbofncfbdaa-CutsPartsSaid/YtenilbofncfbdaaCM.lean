/- Cuts: sides as numbers, the least of them, what the least have in common: plain. No program here.
Cuts: the least flow of any two nodes, by all pairs and by those with node 0: plain. No program here.
Cuts: the document's leaving, Side, Flow, Cut, Weakest: walked.
Cuts: the document's Side, Flow, Cut, Weakest: walked.
Cuts: the document's Flow, Cut, Weakest: walked. -/
import Derived.Test.YtenilbofncfbdaaCD
import Derived.Test.YtenilbofncfbdaaCB
import Derived.Test.YtenilbofncfbdaaCK
import Derived.Laws.Bits64b
set_option linter.unusedSimpArgs false
set_option linter.unusedVariables false
namespace Go.Proofs.Ytenilbofncfbdaa

/-- how many pairs leave a side -/
def leavN (L : Prs) (s : Nat) : Nat := crossF (endA L) (endB L) (fun v => s.testBit v) L.length
def validS (a b s : Nat) : Prop := s.testBit a = true ∧ s.testBit b = false
instance (a b s : Nat) : Decidable (validS a b s) := by unfold validS; exact inferInstance
def sdN (L : Prs) (a b : Nat) : Nat → Nat × Nat
  | 0 => (L.length + 1, 0)
  | s + 1 => if validS a b s then (if leavN L s < (sdN L a b s).1 then (leavN L s, s) else if leavN L s = (sdN L a b s).1 then ((sdN L a b s).1, (sdN L a b s).2 &&& s) else sdN L a b s) else sdN L a b s
structure SdI (L : Prs) (a b k : Nat) (l c : Nat) : Prop where
  le : ∀ s, s < k → validS a b s → l ≤ leavN L s
  some : (∃ s, s < k ∧ validS a b s) → ∃ s, s < k ∧ validS a b s ∧ leavN L s = l
  none : (¬ ∃ s, s < k ∧ validS a b s) → l = L.length + 1 ∧ c = 0
  com : (∃ s, s < k ∧ validS a b s) → ∀ v, c.testBit v = true ↔ ∀ s, s < k → validS a b s → leavN L s = l → s.testBit v = true
theorem leavN_le {L : Prs} {s : Nat} : leavN L s ≤ L.length := cross_le _ _ _ _
theorem sdN_ok {L : Prs} {a b : Nat} : ∀ k, SdI L a b k (sdN L a b k).1 (sdN L a b k).2 := by
  intro k
  induction k with
  | zero => exact ⟨fun s h => by omega, fun ⟨s, h, _⟩ => by omega, fun _ => ⟨rfl, rfl⟩, fun ⟨s, h, _⟩ => by omega⟩
  | succ k ih =>
    obtain ⟨h1, h2, h3, h4⟩ := ih
    unfold sdN
    by_cases hv : validS a b k
    · rw [if_pos hv]
      by_cases hlt : leavN L k < (sdN L a b k).1
      · rw [if_pos hlt]
        refine ⟨fun s hs hsv => ?_, fun _ => ⟨k, Nat.lt_succ_self k, hv, rfl⟩, fun h => absurd ⟨k, Nat.lt_succ_self k, hv⟩ h, fun _ v => ⟨fun h s hs hsv he => ?_, fun h => h k (Nat.lt_succ_self k) hv rfl⟩⟩
        · by_cases e : s = k
          · subst e; exact Nat.le_refl _
          · exact Nat.le_trans (Nat.le_of_lt hlt) (h1 s (by omega) hsv)
        · by_cases e : s = k
          · subst e; exact h
          · have := h1 s (by omega) hsv
            have he' : leavN L s = leavN L k := he
            omega
      · rw [if_neg hlt]
        have hex : ∃ s, s < k ∧ validS a b s := by
          refine Classical.byContradiction fun hn => hlt ?_
          rw [(h3 hn).1]
          exact Nat.lt_succ_of_le leavN_le
        obtain ⟨s0, hs0, hv0, he0⟩ := h2 hex
        by_cases heq : leavN L k = (sdN L a b k).1
        · rw [if_pos heq]
          refine ⟨fun s hs hsv => ?_, fun _ => ⟨s0, by omega, hv0, he0⟩, fun h => absurd ⟨k, Nat.lt_succ_self k, hv⟩ h, fun _ v => ?_⟩
          · by_cases e : s = k
            · subst e; exact Nat.le_of_eq heq.symm
            · exact h1 s (by omega) hsv
          · show ((sdN L a b k).2 &&& k).testBit v = true ↔ _
            rw [Nat.testBit_and, Bool.and_eq_true, h4 hex v]
            constructor
            · rintro ⟨x1, x2⟩ s hs hsv he
              by_cases e : s = k
              · subst e; exact x2
              · exact x1 s (by omega) hsv he
            · intro h
              exact ⟨fun s hs hsv he => h s (by omega) hsv he, h k (Nat.lt_succ_self k) hv heq⟩
        · rw [if_neg heq]
          refine ⟨fun s hs hsv => ?_, fun _ => ⟨s0, by omega, hv0, he0⟩, fun h => absurd ⟨k, Nat.lt_succ_self k, hv⟩ h, fun _ v => ?_⟩
          · by_cases e : s = k
            · subst e; omega
            · exact h1 s (by omega) hsv
          · rw [h4 hex v]
            refine ⟨fun h s hs hsv he => ?_, fun h s hs hsv he => h s (by omega) hsv he⟩
            by_cases e : s = k
            · subst e; exact absurd he heq
            · exact h s (by omega) hsv he
    · rw [if_neg hv]
      have key : ∀ s, s < k + 1 → validS a b s → s < k := fun s hs hsv => by
        by_cases e : s = k
        · subst e; exact absurd hsv hv
        · omega
      refine ⟨fun s hs hsv => h1 s (key s hs hsv) hsv, fun ⟨s, hs, hsv⟩ => ?_, fun h => h3 fun ⟨s, hs, hsv⟩ => h ⟨s, by omega, hsv⟩, fun ⟨s, hs, hsv⟩ v => ?_⟩
      · obtain ⟨s0, x1, x2, x3⟩ := h2 ⟨s, key s hs hsv, hsv⟩
        exact ⟨s0, by omega, x2, x3⟩
      · rw [h4 ⟨s, key s hs hsv, hsv⟩ v]
        exact ⟨fun h s hs hsv he => h s (key s hs hsv) hsv he, fun h s hs hsv he => h s (by omega) hsv he⟩
/-- a side of Booleans as a number -/
def numS (S : Nat → Bool) : Nat → Nat
  | 0 => 0
  | n + 1 => numS S n + (if S n then 2 ^ n else 0)
theorem numS_lt (S : Nat → Bool) : ∀ n, numS S n < 2 ^ n := by
  intro n
  induction n with
  | zero => exact Nat.lt_succ_self 0
  | succ n ih =>
    unfold numS
    rw [Nat.pow_succ]
    split <;> omega
theorem numS_bit (S : Nat → Bool) : ∀ n v, v < n → (numS S n).testBit v = S v := by
  intro n
  induction n with
  | zero => intro v h; omega
  | succ n ih =>
    intro v hv
    have hl := numS_lt S n
    unfold numS
    by_cases e : v = n
    · subst e
      cases hS : S v with
      | true =>
        rw [if_pos rfl, Nat.add_comm, Nat.testBit_two_pow_add_eq, Nat.testBit_lt_two_pow hl]
        rfl
      | false =>
        rw [if_neg (by simp), Nat.add_zero]
        exact Nat.testBit_lt_two_pow hl
    · cases hS : S n with
      | true =>
        rw [if_pos rfl, Nat.add_comm, Nat.testBit_two_pow_add_gt (by omega)]
        exact ih v (by omega)
      | false =>
        rw [if_neg (by simp), Nat.add_zero]
        exact ih v (by omega)
theorem cross_same {A B : Nat → Nat} {S S' : Nat → Bool} : ∀ m, (∀ k, k < m → S (A k) = S' (A k) ∧ S (B k) = S' (B k)) → crossF A B S m = crossF A B S' m := by
  intro m
  induction m with
  | zero => intro _; rfl
  | succ m ih =>
    intro h
    rw [cross_succ, cross_succ, ih fun k hk => h k (by omega), (h m (by omega)).1, (h m (by omega)).2]
theorem leav_num {n : Nat} {L : Prs} (hf : FitL n L) (S : Nat → Bool) : leavN L (numS S n) = crossF (endA L) (endB L) S L.length := by
  unfold leavN
  refine cross_same _ fun k hk => ?_
  have := hf.lt k hk
  exact ⟨numS_bit S n _ (by omega), numS_bit S n _ (by omega)⟩
/-- the document's side against the program's -/
theorem side_same {L : Prs} {n a b : Nat} (hf : FitL n L) (ha : a < n) (hb : b < n) (hab : a ≠ b) :
    (sdN L a b (2 ^ n)).1 = (mostF L n a b).2 ∧ ∀ v, v < n → (sdN L a b (2 ^ n)).2.testBit v = sideB L (mostF L n a b).1 n a b v := by
  have hm := most_ok hf ha hb hab
  obtain ⟨g, hg⟩ : ∃ g, g = (mostF L n a b).1 := ⟨_, rfl⟩
  obtain ⟨t, ht⟩ : ∃ t, t = (mostF L n a b).2 := ⟨_, rfl⟩
  rw [← hg, ← ht] at hm ⊢
  obtain ⟨s1, s2, -⟩ := side_closed hf ha hb hm
  have hs := most_side hf ha hb hm
  have hv : validS a b (numS (sideB L g n a b) n) := ⟨by rw [numS_bit _ _ _ ha]; exact s1, by rw [numS_bit _ _ _ hb]; exact s2⟩
  have hlt := numS_lt (sideB L g n a b) n
  have hle : leavN L (numS (sideB L g n a b) n) = t := by rw [leav_num hf, hs]
  obtain ⟨h1, h2, h3, h4⟩ := sdN_ok (L := L) (a := a) (b := b) (2 ^ n)
  have hex : ∃ s, s < 2 ^ n ∧ validS a b s := ⟨_, hlt, hv⟩
  obtain ⟨s0, x1, x2, x3⟩ := h2 hex
  have e1 : (sdN L a b (2 ^ n)).1 = t := by
    have a1 := h1 _ hlt hv
    have a2 := most_le hm (fun v => s0.testBit v) x2.1 x2.2
    have a3 : leavN L s0 = crossF (endA L) (endB L) (fun v => s0.testBit v) L.length := rfl
    omega
  refine ⟨e1, fun v hvn => ?_⟩
  rw [Bool.eq_iff_iff, h4 hex v]
  constructor
  · intro h
    have := h _ hlt hv (by rw [hle, e1])
    rwa [numS_bit _ _ _ hvn] at this
  · intro h s hs hsv he
    refine side_least hf ha hb hm (fun v => s.testBit v) hsv.1 hsv.2 ?_ v hvn h
    rw [← e1, ← he]
    rfl

end Go.Proofs.Ytenilbofncfbdaa

namespace Go.Proofs.Ytenilbofncfbdaa

/-- the document's: from node 0 alone -/
def rwkN (L : Prs) (n : Nat) : Nat → Nat
  | 0 => L.length
  | b + 1 => min (rwkN L n b) (mostI L n 0 ((b + 1 : Nat) : Int)).2
def FlV (L : Prs) (n a b : Nat) : Nat := (mostI L n (a : Int) (b : Int)).2
theorem wkB_succ (L : Prs) (n a : Nat) (s : Nat × Bool) (j : Nat) : wkB L n a s (j + 1) = wkS (wkB L n a s j) (FlV L n a (a + 1 + j)) := rfl
theorem wkA_succ (L : Prs) (n a : Nat) : wkA L n (a + 1) = wkB L n a (wkA L n a) (n - (a + 1)) := rfl
theorem wkB_ok {L : Prs} {n a : Nat} {s : Nat × Bool} : ∀ j, ((wkB L n a s j).2 = true ↔ s.2 = true ∨ 0 < j) ∧ (s.2 = true → (wkB L n a s j).1 ≤ s.1) ∧ (∀ i, i < j → (wkB L n a s j).1 ≤ FlV L n a (a + 1 + i)) ∧
    ((wkB L n a s j).2 = true → (s.2 = true ∧ (wkB L n a s j).1 = s.1) ∨ ∃ i, i < j ∧ (wkB L n a s j).1 = FlV L n a (a + 1 + i)) := by
  intro j
  induction j with
  | zero => exact ⟨by simp [wkB], fun _ => Nat.le_refl _, fun i h => by omega, fun h => .inl ⟨h, rfl⟩⟩
  | succ j ih =>
    obtain ⟨h1, h2, h3, h4⟩ := ih
    rw [wkB_succ]
    unfold wkS
    by_cases hc : (wkB L n a s j).2 = false ∨ FlV L n a (a + 1 + j) < (wkB L n a s j).1
    · rw [if_pos hc]
      refine ⟨by simp, fun hs => ?_, fun i hi => ?_, fun _ => .inr ⟨j, Nat.lt_succ_self j, rfl⟩⟩
      · have := h1.2 (.inl hs)
        rcases hc with hc | hc
        · rw [hc] at this; cases this
        · exact Nat.le_trans (Nat.le_of_lt hc) (h2 hs)
      · by_cases e : i = j
        · subst e; exact Nat.le_refl _
        · rcases hc with hc | hc
          · have := h1.2 (.inr (by omega))
            rw [hc] at this; cases this
          · exact Nat.le_trans (Nat.le_of_lt hc) (h3 i (by omega))
    · rw [if_neg hc]
      have hc1 : (wkB L n a s j).2 = true := by cases h : (wkB L n a s j).2 with | true => rfl | false => exact absurd (.inl h) hc
      have hc2 : (wkB L n a s j).1 ≤ FlV L n a (a + 1 + j) := by
        have : ¬ FlV L n a (a + 1 + j) < (wkB L n a s j).1 := fun h => hc (.inr h)
        omega
      refine ⟨by simp [hc1], h2, fun i hi => ?_, fun h => ?_⟩
      · by_cases e : i = j
        · subst e; exact hc2
        · exact h3 i (by omega)
      · rcases h4 h with h | ⟨i, x, y⟩
        · exact .inl h
        · exact .inr ⟨i, by omega, y⟩
theorem wkA_ok {L : Prs} {n : Nat} : ∀ a, a ≤ n → (∀ a' b, a' < a → a' < b → b < n → (wkA L n a).1 ≤ FlV L n a' b) ∧ ((wkA L n a).2 = true → ∃ a' b, a' < b ∧ b < n ∧ (wkA L n a).1 = FlV L n a' b) ∧ ((wkA L n a).2 = true ↔ 0 < a ∧ 1 < n) ∧ ((wkA L n a).2 = false → (wkA L n a).1 = 0) := by
  intro a
  induction a with
  | zero => intro _; exact ⟨fun _ _ h => absurd h (Nat.not_lt_zero _), (fun h => by cases h), ⟨(fun h => by cases h), fun h => absurd h.1 (Nat.lt_irrefl _)⟩, fun _ => rfl⟩
  | succ a ih =>
    intro ha
    obtain ⟨h1, h2, h3, h4⟩ := ih (by omega)
    obtain ⟨g1, g2, g3, g4⟩ := wkB_ok (L := L) (n := n) (a := a) (s := wkA L n a) (n - (a + 1))
    rw [wkA_succ]
    refine ⟨fun a' b x1 x2 x3 => ?_, fun h => ?_, ?_, fun h => ?_⟩
    · by_cases e : a' = a
      · subst e
        have := g3 (b - (a' + 1)) (by omega)
        rwa [show a' + 1 + (b - (a' + 1)) = b by omega] at this
      · exact Nat.le_trans (g2 (h3.2 ⟨by omega, by omega⟩)) (h1 a' b (by omega) x2 x3)
    · rcases g4 h with ⟨x, y⟩ | ⟨i, x, y⟩
      · obtain ⟨a', b, z1, z2, z3⟩ := h2 x
        exact ⟨a', b, z1, z2, y.trans z3⟩
      · exact ⟨a, a + 1 + i, by omega, by omega, y⟩
    · rw [g1, h3]
      omega
    · have hn : ¬ ((wkA L n a).2 = true ∨ 0 < n - (a + 1)) := fun e => by rw [g1.2 e] at h; cases h
      have e0 : n - (a + 1) = 0 := by omega
      rw [e0]
      refine h4 ?_
      cases e : (wkA L n a).2 with
      | false => rfl
      | true => exact absurd (.inl e) hn
theorem rwkN_ok {L : Prs} {n : Nat} : ∀ b, rwkN L n b ≤ L.length ∧ (∀ i, 1 ≤ i → i ≤ b → rwkN L n b ≤ FlV L n 0 i) ∧ (rwkN L n b = L.length ∨ ∃ i, 1 ≤ i ∧ i ≤ b ∧ rwkN L n b = FlV L n 0 i) := by
  intro b
  induction b with
  | zero => exact ⟨Nat.le_refl _, fun i h1 h2 => by omega, .inl rfl⟩
  | succ b ih =>
    obtain ⟨h1, h2, h3⟩ := ih
    have e : rwkN L n (b + 1) = min (rwkN L n b) (FlV L n 0 (b + 1)) := rfl
    refine ⟨by omega, fun i x y => ?_, ?_⟩
    · by_cases c : i = b + 1
      · subst c; omega
      · have := h2 i x (by omega); omega
    · by_cases c : FlV L n 0 (b + 1) < rwkN L n b
      · exact .inr ⟨b + 1, by omega, Nat.le_refl _, by omega⟩
      · rcases h3 with h3 | ⟨i, x, y, z⟩
        · exact .inl (by omega)
        · exact .inr ⟨i, x, by omega, by omega⟩
theorem flv_ok {L : Prs} {n a b : Nat} (hf : FitL n L) (ha : a < n) (hb : b < n) (hab : a ≠ b) :
    (∃ S : Nat → Bool, S a = true ∧ S b = false ∧ FlV L n a b = crossF (endA L) (endB L) S L.length) ∧ ∀ S : Nat → Bool, S a = true → S b = false → FlV L n a b ≤ crossF (endA L) (endB L) S L.length := by
  have e : FlV L n a b = (mostF L n a b).2 := by unfold FlV; rw [mostI_pair hab ha hb]
  have hm := most_ok hf ha hb hab
  rw [e]
  obtain ⟨s1, s2, -⟩ := side_closed hf ha hb hm
  exact ⟨⟨_, s1, s2, most_side hf ha hb hm⟩, fun S h1 h2 => most_le hm S h1 h2⟩
theorem cross_not (A B : Nat → Nat) (S : Nat → Bool) : ∀ m, crossF A B (fun v => !S v) m = crossF A B S m := by
  intro m
  induction m with
  | zero => rfl
  | succ m ih =>
    rw [cross_succ, cross_succ, ih]
    cases S (A m) <;> cases S (B m) <;> rfl
/-- THE WEAKEST: the document's answer is the program's -/
theorem weak_same {L : Prs} {n : Nat} (hf : FitL n L) (hn : 1 ≤ n) : weakI L n = if n = 1 then (0, false) else (rwkN L n (n - 1), true) := by
  obtain ⟨h1, h2, h3, h4⟩ := wkA_ok (L := L) (n := n) n (Nat.le_refl _)
  unfold weakI
  by_cases e : n = 1
  · rw [if_pos e]
    have hfl : (wkA L n n).2 = false := by
      cases h : (wkA L n n).2 with
      | false => rfl
      | true => have := (h3.1 h).2; omega
    exact Prod.ext (h4 hfl) hfl
  · rw [if_neg e]
    have ht : (wkA L n n).2 = true := h3.2 ⟨by omega, by omega⟩
    refine Prod.ext ?_ ht
    obtain ⟨a', b, x1, x2, x3⟩ := h2 ht
    obtain ⟨r1, r2, r3⟩ := rwkN_ok (L := L) (n := n) (n - 1)
    have hle : (wkA L n n).1 ≤ L.length := by
      rw [x3]
      obtain ⟨⟨S, _, _, hS⟩, -⟩ := flv_ok hf (show a' < n by omega) x2 (by omega)
      rw [hS]
      exact cross_le _ _ _ _
    apply Nat.le_antisymm
    · rcases r3 with r3 | ⟨i, y1, y2, y3⟩
      · rw [r3]; exact hle
      · rw [y3]; exact h1 0 i (by omega) (by omega) (by omega)
    · obtain ⟨⟨S, s1, s2, s3⟩, -⟩ := flv_ok hf (show a' < n by omega) x2 (by omega)
      show rwkN L n (n - 1) ≤ (wkA L n n).1
      rw [x3, s3]
      cases h0 : S 0 with
      | true =>
        have hb0 : b ≠ 0 := fun e => by rw [e, h0] at s2; cases s2
        have := (flv_ok hf (show 0 < n by omega) x2 (Ne.symm hb0)).2 S h0 s2
        exact Nat.le_trans (r2 b (by omega) (by omega)) this
      | false =>
        have ha0 : a' ≠ 0 := fun e => by rw [e, h0] at s1; cases s1
        have := (flv_ok hf (show 0 < n by omega) (show a' < n by omega) (Ne.symm ha0)).2 (fun v => !S v) (by simp [h0]) (by simp [s1])
        rw [cross_not] at this
        exact Nat.le_trans (r2 a' (by omega) (by omega)) this

end Go.Proofs.Ytenilbofncfbdaa

namespace Go.Proofs.Ytenilbofncfbdaa
open Go.RowKit

theorem bits_and_i64_nat (a b : Nat) (ha : a < 4294967296) (hb : b < 4294967296) : bits .and .i64 (a : Int) (b : Int) = ((a &&& b : Nat) : Int) := by
  have hx : a &&& b < 2 ^ 32 := Nat.and_lt_two_pow _ (by omega)
  have h1 : (BitVec.ofInt 64 (a : Int)).toNat = a := by
    rw [BitVec.ofInt_natCast, BitVec.toNat_ofNat]; exact Nat.mod_eq_of_lt (by omega)
  have h2 : (BitVec.ofInt 64 (b : Int)).toNat = b := by
    rw [BitVec.ofInt_natCast, BitVec.toNat_ofNat]; exact Nat.mod_eq_of_lt (by omega)
  show IntKind.i64.wrap ((BitVec.ofInt 64 (a : Int) &&& BitVec.ofInt 64 (b : Int)).toNat : Int) = _
  rw [BitVec.toNat_and, h1, h2, IntKind.wrap_i64]
  omega
/-- a node's bit -/
def bitN (s v : Nat) : Nat := if s.testBit v then 1 else 0
theorem bit_and (s v : Nat) (hs : s < 4294967296) : bits .and .i64 ((s : Int) / 2 ^ v) 1 = (bitN s v : Int) := by
  have e : ((s : Int) / 2 ^ v) = ((s / 2 ^ v : Nat) : Int) := by rw [Int.natCast_ediv, Int.natCast_pow]; rfl
  rw [e]
  have h := bits_and_i64_nat (s / 2 ^ v) 1 (Nat.lt_of_le_of_lt (Nat.div_le_self _ _) hs) (by omega)
  rw [show ((1 : Nat) : Int) = 1 from rfl] at h
  rw [h, Nat.and_one_is_mod]
  unfold bitN
  rw [Nat.testBit_eq_decide_div_mod_eq]
  have : s / 2 ^ v % 2 < 2 := Nat.mod_lt _ (by omega)
  by_cases c : s / 2 ^ v % 2 = 1
  · rw [c]; simp
  · have c0 : s / 2 ^ v % 2 = 0 := by omega
    rw [c0]; simp

set_option maxRecDepth 100000 in
set_option maxHeartbeats 2000000 in
theorem leaving_any (W : World) (lv : Value) (n : Nat) (L : Prs) (s : Nat) (hl : Lis W W.heap.size lv L) (hf : FitL n L) (hL : L.length ≤ 1000) (hn : n ≤ 16) (hs : s ≤ 65536) :
    Calls Try.prog 46 #[lv, .int .i64 (s : Int)] W fun e w' => e = .returned (.int .i64 (leavN L s : Int)) ∧ Below W.heap.size W w' := by
  obtain ⟨ao, ac, rfl, hac, hal⟩ := hl.slice
  have HL := Lib.hid hl
  have HF := Lib.hid hf
  have HR : Hid (leavN L s = crossF (endA L) (endB L) (fun v => s.testBit v) L.length) := rfl
  obtain ⟨R, hR⟩ : ∃ R, R = leavN L s := ⟨_, rfl⟩
  rw [← hR] at HR ⊢
  obtain ⟨m, hm⟩ : ∃ m, m = L.length := ⟨_, rfl⟩
  have HM := Lib.hid hm
  rw [← hm] at HL hac hal hL HR ⊢
  clear hl hf hR hm
  go_enter Try.func46, Try.ntmps46
  go_wp2_with (fail)
  go_loopw [5, 6] (fun cv kv wx => ∃ c k : Nat, cv = .int .i64 (c : Int) ∧ kv = .int .i64 (k : Int) ∧ k ≤ m ∧ c ≤ k ∧ Hid (c = crossF (endA L) (endB L) (fun v => s.testBit v) k) ∧ Hid (Below W.heap.size W wx)) (fun _ kv _ => m - (intOf kv).toNat)
  case atStart => exact ⟨0, 0, rfl, rfl, Nat.zero_le _, Nat.zero_le _, rfl, Below.refl _ _⟩
  case round =>
    obtain ⟨c, k, rfl, rfl, hk, hck, HC, HB⟩ := hrel
    by_cases hlt : k < m
    · have hkL : k < L.length := by have := HM.out; omega
      obtain ⟨bl, ol, e1, hl1, cA, cB⟩ := Lis.at (HL.out.below HB.out (Nat.le_refl _)) k hkL
      subst e1
      have hAB := HF.out.lt k hkL
      have HST : Hid (crossF (endA L) (endB L) (fun v => s.testBit v) (k + 1) = c + (if s.testBit (endA L k) = s.testBit (endB L k) then 0 else 1)) := by show _ = _; rw [cross_succ, HC.out]
      obtain ⟨x, hx⟩ : ∃ x, x = endA L k := ⟨_, rfl⟩
      obtain ⟨y, hy⟩ : ∃ x, x = endB L k := ⟨_, rfl⟩
      rw [← hx] at cA hAB HST
      rw [← hy] at cB hAB HST
      have hx0 : 0 ≤ (x : Int) ∧ (x : Int) ≤ 64 := by omega
      have hy0 : 0 ≤ (y : Int) ∧ (y : Int) ≤ 64 := by omega
      have wx : IntKind.u64.wrap (x : Int) = (x : Int) := by rw [IntKind.wrap_u64]; omega
      have wy : IntKind.u64.wrap (y : Int) = (y : Int) := by rw [IntKind.wrap_u64]; omega
      have bx := bit_and s x (by omega)
      have by_ := bit_and s y (by omega)
      have hbw : bl < wr.heap.size := by have := HB.out.size; omega
      clear hx hy hkL hAB
      by_cases hq : s.testBit x = s.testBit y
      · have HE : Hid (crossF (endA L) (endB L) (fun v => s.testBit v) (k + 1) = c) := by show _ = _; rw [HST.out, if_pos hq]; rfl
        have hbe : ((bitN s x : Nat) : Int) = ((bitN s y : Nat) : Int) := by unfold bitN; rw [hq]
        clear hq
        go_wp2_with (fail)
        go_quiet (fail)
        go_wp2_with (fail)
        go_roundw
        case rel => exact ⟨c, k + 1, rfl, by go_num, by omega, by omega, HE.out.symm, HB.out.trans (bdN _ _ _)⟩
        case measure => simp [intOf] <;> omega
      · have HE : Hid (crossF (endA L) (endB L) (fun v => s.testBit v) (k + 1) = c + 1) := by show _ = _; rw [HST.out, if_neg hq]
        have hbn : ((bitN s x : Nat) : Int) ≠ ((bitN s y : Nat) : Int) := by
          unfold bitN
          cases h1 : s.testBit x <;> cases h2 : s.testBit y <;> simp [h1, h2] at hq ⊢
        have hbn2 : (((bitN s x : Nat) : Int) != ((bitN s y : Nat) : Int)) = true := by simpa using hbn
        clear hq hbn
        go_wp2_with (fail)
        go_quiet (fail)
        go_wp2_with (fail)
        go_roundw
        case rel => exact ⟨c + 1, k + 1, by go_num, by go_num, by omega, by omega, HE.out.symm, HB.out.trans (bdN _ _ _)⟩
        case measure => simp [intOf] <;> omega
    · obtain rfl : k = m := by omega
      have HE : Hid (R = c) := by show _ = _; rw [HR.out, HC.out]
      go_wp2_with (fail)
      go_ret
      rw [HE.out]
      exact ⟨rfl, HB.out⟩

end Go.Proofs.Ytenilbofncfbdaa

namespace Go.Proofs.Ytenilbofncfbdaa
open Go.RowKit

set_option maxRecDepth 100000 in
set_option maxHeartbeats 400000 in
theorem rside_any (w : World) (lv : Value) (n : Nat) (L : Prs) (a b : Nat) (hl : Lis w w.heap.size lv L) (hf : FitL n L) (hL : L.length ≤ 1000) (hn : n ≤ 10) (ha : a < n) (hb : b < n) :
    Calls Try.prog 33 #[.int .i64 (n : Int), lv, .int .i64 (a : Int), .int .i64 (b : Int)] w fun e w' => e = .returned (.tuple #[.int .i64 ((sdN L a b (2 ^ n)).2 : Int), .int .i64 ((sdN L a b (2 ^ n)).1 : Int)]) ∧ Below w.heap.size w w' := by
  obtain ⟨ao, ac, hlv, hac, hal⟩ := hl.slice
  have HLV : Hid (∀ (W : World) (s : Nat), Below w.heap.size w W → s ≤ 65536 → Calls Try.prog 46 #[lv, .int .i64 (s : Int)] W fun e w' => e = .returned (.int .i64 (leavN L s : Int)) ∧ Below W.heap.size W w') := fun W s hW hs => leaving_any W lv n L s (hl.below hW hW.size) hf hL (by omega) hs
  have HLE : Hid (∀ s : Nat, leavN L s ≤ 1000) := fun s => Nat.le_trans leavN_le hL
  have HST : Hid (∀ s : Nat, sdN L a b (s + 1) = if validS a b s then (if leavN L s < (sdN L a b s).1 then (leavN L s, s) else if leavN L s = (sdN L a b s).1 then ((sdN L a b s).1, (sdN L a b s).2 &&& s) else sdN L a b s) else sdN L a b s) := fun s => rfl
  have HS0 : Hid (sdN L a b 0 = (L.length + 1, 0)) := rfl
  obtain ⟨m, hm⟩ : ∃ m, m = L.length := ⟨_, rfl⟩
  rw [← hm] at hlv hac hal hL HS0
  subst hlv
  obtain ⟨N2, hN2⟩ : ∃ q, q = 2 ^ n := ⟨_, rfl⟩
  have hN3 : N2 ≤ 1024 := by rw [hN2]; exact Nat.le_trans (Nat.pow_le_pow_right (by omega) hn) (by decide)
  have hsh : (2 : Int) ^ n = (N2 : Int) := by rw [hN2, Int.natCast_pow]; rfl
  rw [← hN2]
  have hn0 : 0 ≤ (n : Int) ∧ (n : Int) ≤ 64 := by omega
  have ha0 : 0 ≤ (a : Int) ∧ (a : Int) ≤ 64 := by omega
  have hb0 : 0 ≤ (b : Int) ∧ (b : Int) ≤ 64 := by omega
  have wn : IntKind.u64.wrap (n : Int) = (n : Int) := by rw [IntKind.wrap_u64]; omega
  have wa : IntKind.u64.wrap (a : Int) = (a : Int) := by rw [IntKind.wrap_u64]; omega
  have wb : IntKind.u64.wrap (b : Int) = (b : Int) := by rw [IntKind.wrap_u64]; omega
  clear hl hf hm hN2
  go_enter Try.func33, Try.ntmps33
  go_wp2_with (fail)
  go_loopw [10, 11, 12] (fun lv cv sv wx => ∃ l c s : Nat, lv = .int .i64 (l : Int) ∧ cv = .int .i64 (c : Int) ∧ sv = .int .i64 (s : Int) ∧ s ≤ N2 ∧ l ≤ 1001 ∧ c ≤ 1024 ∧ Hid (sdN L a b s = (l, c)) ∧ Hid (Below w.heap.size w wx)) (fun _ _ sv _ => N2 - (intOf sv).toNat)
  case atStart => exact ⟨m + 1, 0, 0, by go_num, rfl, rfl, Nat.zero_le _, by omega, by omega, HS0.out, Below.refl _ _⟩
  case round =>
    obtain ⟨l, c, s, rfl, rfl, rfl, hs, hl, hc, HS, HB⟩ := hrel
    by_cases hlt : s < N2
    · have ba := bit_and s a (by omega)
      have bb := bit_and s b (by omega)
      have HST2 := Lib.hid (HST.out s)
      rw [HS.out] at HST2
      have HN : Hid (¬ validS a b s → sdN L a b (s + 1) = (l, c)) := fun h => by rw [HST2.out, if_neg h]
      have hs2 : s ≤ 65536 := by omega
      cases ca : s.testBit a with
      | false =>
        have ba0 : bits .and .i64 ((s : Int) / 2 ^ a) 1 = 0 := by rw [ba]; unfold bitN; rw [ca]; rfl
        have HE := Lib.hid (HN.out (by rintro ⟨h, -⟩; rw [ca] at h; cases h))
        clear ba bb HST2 HN ca
        go_wp2_with (fail)
        go_roundw
        case rel => exact ⟨l, c, s + 1, rfl, rfl, by go_num, by omega, by omega, by omega, HE.out, HB.out⟩
        case measure => simp [intOf] <;> omega
      | true =>
        have ba1 : bits .and .i64 ((s : Int) / 2 ^ a) 1 = 1 := by rw [ba]; unfold bitN; rw [ca]; rfl
        cases cb : s.testBit b with
        | true =>
          have bb1 : bits .and .i64 ((s : Int) / 2 ^ b) 1 = 1 := by rw [bb]; unfold bitN; rw [cb]; rfl
          have HE := Lib.hid (HN.out (by rintro ⟨-, h⟩; rw [cb] at h; cases h))
          clear ba bb HST2 HN ca cb
          go_wp2_with (fail)
          go_roundw
          case rel => exact ⟨l, c, s + 1, rfl, rfl, by go_num, by omega, by omega, by omega, HE.out, HB.out⟩
          case measure => simp [intOf] <;> omega
        | false =>
          have bb0 : bits .and .i64 ((s : Int) / 2 ^ b) 1 = 0 := by rw [bb]; unfold bitN; rw [cb]; rfl
          have hv : validS a b s := ⟨ca, cb⟩
          have HLC := Lib.hid (HLV.out wr s HB.out hs2)
          have hx1 := HLE.out s
          rw [if_pos hv] at HST2
          obtain ⟨x, hx⟩ : ∃ x, x = leavN L s := ⟨_, rfl⟩
          rw [← hx] at HLC HST2 hx1
          clear ba bb HN ca cb hv hx
          go_wp2_with (fail)
          refine HLC.out.mono ?_
          rintro e W2 ⟨rfl, hb2⟩
          have HB2 : Hid (Below w.heap.size w W2) := HB.out.trans (hb2.mono HB.out.size)
          clear hb2 HLC HB ba1 bb0
          by_cases c1 : x < l
          · have HE : Hid (sdN L a b (s + 1) = (x, s)) := by show _ = _; rw [HST2.out, if_pos c1]
            go_wp2_with (fail)
            go_roundw
            case rel => exact ⟨x, s, s + 1, rfl, rfl, by go_num, by omega, by omega, by omega, HE.out, HB2.out⟩
            case measure => simp [intOf] <;> omega
          · by_cases c2 : x = l
            · have HE : Hid (sdN L a b (s + 1) = (x, c &&& s)) := by show _ = _; rw [HST2.out, if_neg c1, if_pos c2, c2]
              have hand := bits_and_i64_nat c s (by omega) (by omega)
              have hcs : c &&& s ≤ 1024 := Nat.le_trans Nat.and_le_left hc
              obtain ⟨cs, hcsv⟩ : ∃ q, q = c &&& s := ⟨_, rfl⟩
              rw [← hcsv] at HE hand hcs
              subst c2
              clear hcsv
              go_wp2_with (fail)
              go_roundw
              case rel => exact ⟨x, cs, s + 1, rfl, rfl, by go_num, by omega, by omega, by omega, HE.out, HB2.out⟩
              case measure => simp [intOf] <;> omega
            · have HE : Hid (sdN L a b (s + 1) = (l, c)) := by show _ = _; rw [HST2.out, if_neg c1, if_neg c2]
              have c2b : ((x : Int) == (l : Int)) = false := by rw [beq_eq_false_iff_ne]; omega
              go_wp2_with (fail)
              go_roundw
              case rel => exact ⟨l, c, s + 1, rfl, rfl, by go_num, by omega, by omega, by omega, HE.out, HB2.out⟩
              case measure => simp [intOf] <;> omega
    · obtain rfl : s = N2 := by omega
      have HE := Lib.hid HS.out
      go_wp2_with (fail)
      rw [HE.out]
      exact bodyPost_ret (results_tmp2 rfl _ _ _) rfl ⟨rfl, HB.out⟩

end Go.Proofs.Ytenilbofncfbdaa

namespace Go.Proofs.Ytenilbofncfbdaa
open Go.RowKit

theorem not_pair {L : Prs} {n : Nat} {a b : Int} (h : ¬ Pair n a b) : (mostI L n a b).2 = 0 := by unfold mostI; rw [if_neg h]
set_option maxRecDepth 100000 in
set_option maxHeartbeats 2000000 in
theorem rflow_any (w : World) (lv : Value) (n : Nat) (L : Prs) (a b : Int) (hl : Lis w w.heap.size lv L) (hf : FitL n L) (hL : L.length ≤ 1000) (hn : n ≤ 10) :
    Calls Try.prog 13 #[.int .i64 (n : Int), lv, .int .i64 a, .int .i64 b] w fun e w' => e = .returned (.int .i64 ((mostI L n a b).2 : Int)) ∧ Below w.heap.size w w' := by
  have hna := Lib.hid (node_any (n : Int) a w)
  have hnb := Lib.hid (node_any (n : Int) b w)
  by_cases hA : 0 ≤ a ∧ a < n
  · have ea : nodeB (n : Int) a = true := by unfold nodeB; simp [hA]
    rw [ea] at hna
    by_cases hB : 0 ≤ b ∧ b < n
    · have eb : nodeB (n : Int) b = true := by unfold nodeB; simp [hB]
      rw [eb] at hnb
      obtain ⟨x, rfl⟩ : ∃ x : Nat, a = (x : Int) := ⟨a.toNat, by omega⟩
      obtain ⟨y, rfl⟩ : ∃ x : Nat, b = (x : Int) := ⟨b.toNat, by omega⟩
      by_cases hab : x = y
      · subst hab
        rw [not_pair (fun h => h.1 rfl)]
        clear ea eb hl hf
        go_enter Try.func13, Try.ntmps13
        go_wp2_with (fail)
        refine hna.out.mono ?_
        rintro e w' ⟨rfl, rfl⟩
        go_wp2_with (fail)
        refine hna.out.mono ?_
        rintro e w2 ⟨rfl, rfl⟩
        go_wp2_with (fail)
        go_ret
        exact ⟨rfl, Below.refl _ _⟩
      · have hxy : ((x : Int) == (y : Int)) = false := by rw [beq_eq_false_iff_ne]; omega
        have hs := (side_same hf (show x < n by omega) (show y < n by omega) hab).1
        have HSD := Lib.hid (rside_any w lv n L x y hl hf hL hn (by omega) (by omega))
        rw [mostI_pair hab (by omega) (by omega), ← hs]
        obtain ⟨r, hr⟩ : ∃ r, r = sdN L x y (2 ^ n) := ⟨_, rfl⟩
        rw [← hr] at HSD ⊢
        clear ea eb hl hf hs hr hab
        go_enter Try.func13, Try.ntmps13
        go_wp2_with (fail)
        refine hna.out.mono ?_
        rintro e w' ⟨rfl, rfl⟩
        go_wp2_with (fail)
        refine hnb.out.mono ?_
        rintro e w2 ⟨rfl, rfl⟩
        go_wp2_with (fail)
        refine HSD.out.mono ?_
        rintro e w2 ⟨rfl, hb⟩
        have HB := Lib.hid hb
        clear hb
        go_wp2_with (fail)
        go_ret
        exact ⟨rfl, HB.out⟩
    · have eb : nodeB (n : Int) b = false := by unfold nodeB; rw [decide_eq_false_iff_not]; exact hB
      rw [eb] at hnb
      rw [not_pair (fun h => hB ⟨h.2.2.2.1, h.2.2.2.2⟩)]
      clear ea eb hl hf hA hB
      go_enter Try.func13, Try.ntmps13
      go_wp2_with (fail)
      refine hna.out.mono ?_
      rintro e w' ⟨rfl, rfl⟩
      go_wp2_with (fail)
      refine hnb.out.mono ?_
      rintro e w2 ⟨rfl, rfl⟩
      go_wp2_with (fail)
      go_ret
      exact ⟨rfl, Below.refl _ _⟩
  · have ea : nodeB (n : Int) a = false := by unfold nodeB; rw [decide_eq_false_iff_not]; exact hA
    rw [ea] at hna
    rw [not_pair (fun h => hA ⟨h.2.1, h.2.2.1⟩)]
    clear ea hl hf hA
    go_enter Try.func13, Try.ntmps13
    go_wp2_with (fail)
    refine hna.out.mono ?_
    rintro e w' ⟨rfl, rfl⟩
    go_wp2_with (fail)
    go_ret
    exact ⟨rfl, Below.refl _ _⟩
/-- the links that are taken so far -/
def TKW (w : World) (P : Nat × Nat → Bool) (L : Prs) (k : Nat) (v : Value) (W : World) : Prop := OwnL W w.heap.size v (prI ((L.take k).filter P)) ∧ Below w.heap.size w W
theorem sdN_small {L : Prs} {a b : Nat} : ∀ k, (sdN L a b k).2 ≤ k := by
  intro k
  induction k with
  | zero => exact Nat.le_refl _
  | succ k ih =>
    unfold sdN
    split
    · split
      · exact Nat.le_succ _
      · split
        · exact Nat.le_trans Nat.and_le_right (Nat.le_succ _)
        · exact Nat.le_succ_of_le ih
    · exact Nat.le_succ_of_le ih

set_option maxRecDepth 100000 in
set_option maxHeartbeats 4000000 in
theorem rcut_any (w : World) (lv : Value) (n : Nat) (L : Prs) (a b : Int) (hl : Lis w w.heap.size lv L) (hf : FitL n L) (hL : L.length ≤ 1000) (hn : n ≤ 10) :
    Calls Try.prog 16 #[.int .i64 (n : Int), lv, .int .i64 a, .int .i64 b] w fun e w' => (∃ v, e = .returned v ∧ OwnL w' w.heap.size v (prI (cutI L n a b))) ∧ Below w.heap.size w w' := by
  have HFC := Lib.hid (rflow_any w lv n L a b hl hf hL hn)
  by_cases ht : (mostI L n a b).2 = 0
  · have e0 : cutI L n a b = [] := by unfold cutI; rw [if_pos ht]
    rw [e0]
    rw [ht] at HFC
    clear e0 ht hl hf
    go_enter Try.func16, Try.ntmps16
    go_wp2_with (fail)
    refine HFC.out.mono ?_
    rintro e w2 ⟨rfl, hb⟩
    have HB := Lib.hid hb
    clear hb
    go_wp2_with (fail)
    go_ret
    exact ⟨⟨_, rfl, OwnL.nil _ _⟩, HB.out⟩
  · have hp : Pair n a b := Classical.byContradiction fun hp => ht (not_pair hp)
    obtain ⟨p1, p2, p3, p4, p5⟩ := hp
    obtain ⟨x, rfl⟩ : ∃ x : Nat, a = (x : Int) := ⟨a.toNat, by omega⟩
    obtain ⟨y, rfl⟩ : ∃ x : Nat, b = (x : Int) := ⟨b.toNat, by omega⟩
    have hx : x < n := by omega
    have hy : y < n := by omega
    have hxy : x ≠ y := by omega
    obtain ⟨c, hc⟩ : ∃ c, c = (sdN L x y (2 ^ n)).2 := ⟨_, rfl⟩
    have hs := (side_same hf hx hy hxy).2
    rw [← hc] at hs
    have hcs : c ≤ 1024 := by rw [hc]; exact Nat.le_trans (sdN_small _) (Nat.le_trans (Nat.pow_le_pow_right (by omega) hn) (by decide))
    have HP : Hid (cutI L n (x : Int) (y : Int) = L.filter (fun p => c.testBit p.1 != c.testBit p.2)) := by
      show _ = _
      unfold cutI
      rw [if_neg ht]
      refine List.filter_congr fun p hp => ?_
      have hpf := (fit_row.1 hf).1 p hp
      unfold cutP sideI
      rw [mostI_pair hxy hx hy, Int.toNat_natCast, Int.toNat_natCast]
      have h1 : (reachB L (mostF L n x y).1 n x y).1.getD p.1 false = c.testBit p.1 := (hs p.1 (by omega)).symm
      have h2 : (reachB L (mostF L n x y).1 n x y).1.getD p.2 false = c.testBit p.2 := (hs p.2 (by omega)).symm
      rw [h1, h2]
    rw [HP.out]
    have HSC : Hid (∀ W, Below w.heap.size w W → Calls Try.prog 33 #[.int .i64 (n : Int), lv, .int .i64 (x : Int), .int .i64 (y : Int)] W fun e w' => (∃ l : Nat, e = .returned (.tuple #[.int .i64 (c : Int), .int .i64 (l : Int)])) ∧ Below W.heap.size W w') := fun W hW => by
      refine (rside_any W lv n L x y (hl.below hW hW.size) hf hL hn hx hy).mono ?_
      rintro e w' ⟨rfl, h⟩
      rw [← hc]
      exact ⟨⟨_, rfl⟩, h⟩
    obtain ⟨P, hP⟩ : ∃ P : Nat × Nat → Bool, P = fun p => c.testBit p.1 != c.testBit p.2 := ⟨_, rfl⟩
    rw [← hP]
    have HPP : Hid (∀ u v, P (u, v) = (c.testBit u != c.testBit v)) := fun u v => by rw [hP]
    obtain ⟨ao, cap, hlv, hcap, hcl⟩ := hl.slice
    have HLS := Lib.hid hl
    have HF := Lib.hid hf
    obtain ⟨m, hm⟩ : ∃ m, m = L.length := ⟨_, rfl⟩
    have HM := Lib.hid hm
    have HTK : Hid ((L.take m).filter P = L.filter P) := by show _ = _; rw [hm, List.take_length]
    obtain ⟨t, htt⟩ : ∃ t, t = (mostI L n (x : Int) (y : Int)).2 := ⟨_, rfl⟩
    rw [← htt] at HFC ht
    have ht0 : ((t : Int) == 0) = false := by rw [beq_eq_false_iff_ne]; omega
    rw [← hm] at hlv hcap hcl hL
    subst hlv
    clear hl hf hm hP hs hc HP htt ht p1 p2 p3 p4 p5
    go_enter Try.func16, Try.ntmps16
    go_wp2_with (fail)
    refine HFC.out.mono ?_
    rintro e W1 ⟨rfl, hb⟩
    have HB := Lib.hid hb
    clear hb HFC
    go_wp2_with (fail)
    refine (HSC.out W1 HB.out).mono ?_
    rintro e W2 ⟨⟨l, rfl⟩, hb2⟩
    have HTW : Hid (TKW w P L 0 (.slice none 0 0) W2) := ⟨OwnL.nil _ _, HB.out.trans (hb2.mono HB.out.size)⟩
    clear hb2 HB HSC ht0
    go_wp2_with (fail)
    go_loopw [9, 12] (fun v kv wx => ∃ k nv cv : Nat, ∃ av, v = .slice av nv cv ∧ kv = .int .i64 (k : Int) ∧ k ≤ m ∧ Hid (TKW w P L k (.slice av nv cv) wx)) (fun _ kv _ => m - (intOf kv).toNat)
    case atStart => exact ⟨0, 0, 0, none, rfl, rfl, Nat.zero_le _, HTW.out⟩
    case round =>
      clear HTW
      obtain ⟨k, nv, cv, av, rfl, rfl, hk, HTW⟩ := hrel
      by_cases hlt : k < m
      · have hkL : k < L.length := by have := HM.out; omega
        obtain ⟨bl, ol, e1, hl1, cA, cB⟩ := Lis.at (HLS.out.below HTW.out.2 (Nat.le_refl _)) k hkL
        subst e1
        have hAB := HF.out.lt k hkL
        have HST : Hid ((L.take (k + 1)).filter P = (L.take k).filter P ++ (if P (endA L k, endB L k) then [(endA L k, endB L k)] else [])) := take_filter hkL
        obtain ⟨u, hu⟩ : ∃ x, x = endA L k := ⟨_, rfl⟩
        obtain ⟨v, hv⟩ : ∃ x, x = endB L k := ⟨_, rfl⟩
        rw [← hu] at cA hAB HST
        rw [← hv] at cB hAB HST
        have hx0 : 0 ≤ (u : Int) ∧ (u : Int) ≤ 64 := by omega
        have hy0 : 0 ≤ (v : Int) ∧ (v : Int) ≤ 64 := by omega
        have wx : IntKind.u64.wrap (u : Int) = (u : Int) := by rw [IntKind.wrap_u64]; omega
        have wy : IntKind.u64.wrap (v : Int) = (v : Int) := by rw [IntKind.wrap_u64]; omega
        have bx := bit_and c u (by omega)
        have by_ := bit_and c v (by omega)
        have hbw : bl < wr.heap.size := by have := HTW.out.2.size; omega
        have HSM : Hid ((prI ((L.take k).filter P)).length ≤ 1000000) := Nat.le_trans prI_small (by have := HM.out; omega)
        clear hu hv hkL hAB
        by_cases hq : c.testBit u = c.testBit v
        · have HE : Hid ((L.take (k + 1)).filter P = (L.take k).filter P) := by show _ = _; rw [HST.out, HPP.out, hq]; simp
          have hbe : ((bitN c u : Nat) : Int) = ((bitN c v : Nat) : Int) := by unfold bitN; rw [hq]
          clear hq
          go_wp2_with (fail)
          go_quiet (fail)
          have HTW2 : Hid (TKW w P L (k + 1) (.slice av nv cv) (wr.drewN nq)) := by
            show _ ∧ _
            rw [HE.out]
            exact ⟨owns_below HTW.out.1 (bdN _ _ _), HTW.out.2.trans (bdN _ _ _)⟩
          go_wp2_with (fail)
          go_roundw
          case rel => exact ⟨k + 1, nv, cv, av, rfl, by go_num, by omega, HTW2.out⟩
          case measure => simp [intOf] <;> omega
        · have HE : Hid ((L.take (k + 1)).filter P = (L.take k).filter P ++ [(u, v)]) := by show _ = _; rw [HST.out, HPP.out]; simp [hq]
          have hbn : ((bitN c u : Nat) : Int) ≠ ((bitN c v : Nat) : Int) := by
            unfold bitN
            cases h1 : c.testBit u <;> cases h2 : c.testBit v <;> simp [h1, h2] at hq ⊢
          have hbn2 : (((bitN c u : Nat) : Int) != ((bitN c v : Nat) : Int)) = true := by simpa using hbn
          clear hq hbn
          go_wp2_with (fail)
          go_quiet (fail)
          obtain ⟨W3, hW3⟩ : ∃ W3, W3 = wr.drewN nq := ⟨_, rfl⟩
          have hb3 : Below wr.heap.size wr W3 := by rw [hW3]; exact bdN _ _ _
          have dA : W3.cell? ⟨bl, ol + k * 2, none⟩ = some (.int .i64 (u : Int)) := by rw [hW3]; exact cA
          have dB : W3.cell? ⟨bl, ol + k * 2 + 1, none⟩ = some (.int .i64 (v : Int)) := by rw [hW3]; exact cB
          rw [← hW3]
          have HTW3 : Hid (TKW w P L k (.slice av nv cv) W3) := ⟨owns_below HTW.out.1 hb3, HTW.out.2.trans (hb3.mono HTW.out.2.size)⟩
          have HM3 := Lib.hid (new_block W3 (.cells #[.int .i64 (u : Int), .int .i64 (v : Int)] 38))
          have HO3 : Hid (OwnL (W3.alloc (.cells #[.int .i64 (u : Int), .int .i64 (v : Int)] 38)) w.heap.size (.slice av nv cv) (prI ((L.take k).filter P))) := owns_below HTW3.out.1 HM3.out.1
          have HSZ3 : Hid (w.heap.size ≤ (W3.alloc (.cells #[.int .i64 (u : Int), .int .i64 (v : Int)] 38)).heap.size) := Nat.le_trans HTW3.out.2.size HM3.out.1.size
          clear hW3 hb3
          go_wp2_with (at_builtin; refine wpList_append_l rfl _ _ rfl w.heap.size _ _ rfl HO3.out W3.heap.size ((u : Int), (v : Int)) rfl HM3.out.2 HSM.out HSZ3.out ?_)
          intro v5 W5 ho5 hg5
          have HTW5 : Hid (TKW w P L (k + 1) v5 W5) := by
            show _ ∧ _
            rw [HE.out]
            exact ⟨by simpa [prI] using ho5, grown_low HO3.out hg5 (HTW3.out.2.trans (HM3.out.1.mono HTW3.out.2.size)) (Nat.le_refl _) HSZ3.out⟩
          obtain ⟨av2, cv2, hv5⟩ := owns_form ho5
          clear ho5 hg5
          subst hv5
          go_wp2_with (fail)
          go_roundw
          case rel => exact ⟨k + 1, _, cv2, av2, rfl, by go_num, by omega, HTW5.out⟩
          case measure => simp [intOf] <;> omega
      · obtain rfl : k = m := by omega
        have HFIN : Hid (OwnL wr w.heap.size (.slice av nv cv) (prI (L.filter P)) ∧ Below w.heap.size w wr) := by
          have h1 := HTW.out.1
          rw [HTK.out] at h1
          exact ⟨h1, HTW.out.2⟩
        clear HTW
        go_wp2_with (fail)
        go_ret
        exact ⟨⟨_, rfl, HFIN.out.1⟩, HFIN.out.2⟩

set_option maxRecDepth 100000 in
set_option maxHeartbeats 2000000 in
theorem rweak_any (w : World) (lv : Value) (n : Nat) (L : Prs) (hl : Lis w w.heap.size lv L) (hf : FitL n L) (hL : L.length ≤ 1000) (hn : n ≤ 10) (hn1 : 1 ≤ n) :
    Calls Try.prog 11 #[.int .i64 (n : Int), lv] w fun e w' => e = .returned (.tuple #[.int .i64 ((weakI L n).1 : Int), .bool (weakI L n).2]) ∧ Below w.heap.size w w' := by
  rw [weak_same hf hn1]
  by_cases h1 : n = 1
  · subst h1
    rw [if_pos rfl]
    clear hl hf
    go_enter Try.func11, Try.ntmps11
    go_wp2_with (fail)
    exact bodyPost_ret (results_tmp2 rfl _ _ _) rfl ⟨rfl, Below.refl _ _⟩
  · rw [if_neg h1]
    have HFL : Hid (∀ (W : World) (b : Int), Below w.heap.size w W → Calls Try.prog 13 #[.int .i64 (n : Int), lv, .int .i64 0, .int .i64 b] W fun e w' => e = .returned (.int .i64 ((mostI L n 0 b).2 : Int)) ∧ Below W.heap.size W w') := fun W b hW => rflow_any W lv n L 0 b (hl.below hW hW.size) hf hL hn
    have HR0 : Hid (rwkN L n 0 = L.length) := rfl
    have HRS : Hid (∀ b, rwkN L n (b + 1) = min (rwkN L n b) (mostI L n 0 ((b + 1 : Nat) : Int)).2) := fun b => rfl
    obtain ⟨R, hR⟩ : ∃ R, R = rwkN L n (n - 1) := ⟨_, rfl⟩
    rw [← hR]
    have HR := Lib.hid hR
    obtain ⟨ao, cap, hlv, hcap, hcl⟩ := hl.slice
    obtain ⟨m, hm⟩ : ∃ m, m = L.length := ⟨_, rfl⟩
    rw [← hm] at hlv hcap hcl hL HR0
    have hnb : ((n : Int) == 1) = false := by rw [beq_eq_false_iff_ne]; omega
    have HRL : Hid (∀ b, rwkN L n b ≤ m) := fun b => by rw [hm]; exact (rwkN_ok b).1
    subst hlv
    clear hl hf hm hR h1
    go_enter Try.func11, Try.ntmps11
    go_wp2_with (fail)
    go_loopw [6, 7] (fun lv bv wx => ∃ l b : Nat, lv = .int .i64 (l : Int) ∧ bv = .int .i64 ((b + 1 : Nat) : Int) ∧ b + 1 ≤ n ∧ l ≤ m ∧ Hid (l = rwkN L n b) ∧ Hid (Below w.heap.size w wx)) (fun _ bv _ => n - (intOf bv).toNat)
    case atStart => exact ⟨m, 0, rfl, by go_num, by omega, Nat.le_refl _, HR0.out.symm, Below.refl _ _⟩
    case round =>
      obtain ⟨l, b, rfl, rfl, hb, hlm, HL, HB⟩ := hrel
      obtain ⟨b1, hb1⟩ : ∃ q, q = b + 1 := ⟨_, rfl⟩
      have HB1 := Lib.hid hb1
      rw [← hb1] at hb ⊢
      clear hb1
      by_cases hlt : b1 < n
      · have HC := Lib.hid (HFL.out wr (b1 : Int) HB.out)
        have HS := Lib.hid (HRS.out b)
        rw [← HB1.out] at HS
        obtain ⟨x, hx⟩ : ∃ x, x = (mostI L n 0 (b1 : Int)).2 := ⟨_, rfl⟩
        rw [← hx, ← HL.out] at HS
        rw [← hx] at HC
        have HLM := Lib.hid (HRL.out b1)
        rw [HS.out] at HLM
        have hmin : (if x < l then (x : Int) else (l : Int)) = ((min l x : Nat) : Int) := by split <;> omega
        clear hx
        go_wp2_with (fail)
        refine HC.out.mono ?_
        rintro e W2 ⟨rfl, hb2⟩
        have HB2 : Hid (Below w.heap.size w W2) := HB.out.trans (hb2.mono HB.out.size)
        clear hb2 HC HB
        go_wp2_with (fail)
        go_roundw
        case rel => exact ⟨min l x, b1, rfl, by go_num, by omega, HLM.out, HS.out.symm, HB2.out⟩
        case measure => simp [intOf] <;> omega
      · obtain rfl : b1 = n := by omega
        have HE : Hid (R = l) := by show _ = _; rw [HR.out, HL.out, HB1.out]; rfl
        go_wp2_with (fail)
        rw [HE.out]
        exact bodyPost_ret (results_tmp2 rfl _ _ _) rfl ⟨rfl, HB.out⟩

end Go.Proofs.Ytenilbofncfbdaa

