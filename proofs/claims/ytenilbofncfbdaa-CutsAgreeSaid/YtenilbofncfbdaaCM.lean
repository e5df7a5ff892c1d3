/- Cuts: sides as numbers, the least of them, what the least have in common: plain. No program here.
Cuts: the least flow of any two nodes, by all pairs and by those with node 0: plain. No program here. -/
import Derived.Test.YtenilbofncfbdaaCD
set_option linter.unusedSimpArgs false
set_option linter.unusedVariables false
namespace Go.Proofs.Ytenilbofncfbdaa

def validS (a b s : Nat) : Prop := s.testBit a = true ∧ s.testBit b = false
instance (a b s : Nat) : Decidable (validS a b s) := by unfold validS; exact inferInstance
end Go.Proofs.Ytenilbofncfbdaa

namespace Go.Proofs.Ytenilbofncfbdaa

def FlV (L : Prs) (n a b : Nat) : Nat := (mostI L n (a : Int) (b : Int)).2
theorem flv_ok {L : Prs} {n a b : Nat} (hf : FitL n L) (ha : a < n) (hb : b < n) (hab : a ≠ b) :
    (∃ S : Nat → Bool, S a = true ∧ S b = false ∧ FlV L n a b = crossF (endA L) (endB L) S L.length) ∧ ∀ S : Nat → Bool, S a = true → S b = false → FlV L n a b ≤ crossF (endA L) (endB L) S L.length := by
  have e : FlV L n a b = (mostF L n a b).2 := by unfold FlV; rw [mostI_pair hab ha hb]
  have hm := most_ok hf ha hb hab
  rw [e]
  obtain ⟨s1, s2, -⟩ := side_closed hf ha hb hm
  exact ⟨⟨_, s1, s2, most_side hf ha hb hm⟩, fun S h1 h2 => most_le hm S h1 h2⟩
theorem cross_not (A B : Nat → Nat) (S : Nat → Bool) : ∀ m, crossF A B (fun v => !S v) m = crossF A B S m := by
  intro m
  induction m with
  | zero => rfl
  | succ m ih =>
    rw [cross_succ, cross_succ, ih]
    cases S (A m) <;> cases S (B m) <;> rfl
/-- flows are the same both ways round -/
theorem flv_symm {L : Prs} {n a b : Nat} (hf : FitL n L) (ha : a < n) (hb : b < n) (hab : a ≠ b) : FlV L n a b = FlV L n b a := by
  have key : ∀ a b, a < n → b < n → a ≠ b → FlV L n a b ≤ FlV L n b a := by
    intro a b ha hb hab
    obtain ⟨⟨S, s1, s2, s3⟩, -⟩ := flv_ok hf hb ha (Ne.symm hab)
    have := (flv_ok hf ha hb hab).2 (fun v => !S v) (by simp [s2]) (by simp [s1])
    rw [cross_not] at this
    omega
  exact Nat.le_antisymm (key a b ha hb hab) (key b a hb ha (Ne.symm hab))
/-- of three nodes none has less than both others -/
theorem flv_three {L : Prs} {n a b c : Nat} (hf : FitL n L) (ha : a < n) (hb : b < n) (hc : c < n) (hab : a ≠ b) (hbc : b ≠ c) (hac : a ≠ c) : min (FlV L n a b) (FlV L n b c) ≤ FlV L n a c := by
  obtain ⟨⟨S, s1, s2, s3⟩, -⟩ := flv_ok hf ha hc hac
  cases h : S b with
  | false => have := (flv_ok hf ha hb hab).2 S s1 h; omega
  | true => have := (flv_ok hf hb hc hbc).2 S h s2; omega
end Go.Proofs.Ytenilbofncfbdaa

