/- Cuts: sides as numbers, the least of them, what the least have in common: plain. No program here.
Cuts: the least flow of any two nodes, by all pairs and by those with node 0: plain. No program here. -/
import Derived.Test.YtenilbofncfbdaaCD
set_option linter.unusedSimpArgs false
set_option linter.unusedVariables false
namespace Go.Proofs.Ytenilbofncfbdaa

def validS (a b s : Nat) : Prop := s.testBit a = true ∧ s.testBit b = false
instance (a b s : Nat) : Decidable (validS a b s) := by unfold validS; exact inferInstance
end Go.Proofs.Ytenilbofncfbdaa

namespace Go.Proofs.Ytenilbofncfbdaa

def FlV (L : Prs) (n a b : Nat) : Nat := (mostI L n (a : Int) (b : Int)).2
end Go.Proofs.Ytenilbofncfbdaa

