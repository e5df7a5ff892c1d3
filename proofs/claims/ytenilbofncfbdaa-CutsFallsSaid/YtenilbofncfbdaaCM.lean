/- Cuts: sides as numbers, the least of them, what the least have in common: plain. No program here.
Cuts: the least flow of any two nodes, by all pairs and by those with node 0: plain. No program here.
Cuts: the document's leaving, Side, Flow, Cut, Weakest: walked.
Cuts: the document's Side, Flow, Cut, Weakest: walked.
Cuts: the document's Flow, Cut, Weakest: walked. -/
import Derived.Test.YtenilbofncfbdaaCD
import Derived.Test.YtenilbofncfbdaaCB
import Derived.Test.YtenilbofncfbdaaCK
import Derived.Laws.Bits64b
set_option linter.unusedSimpArgs false
set_option linter.unusedVariables false
namespace Go.Proofs.Ytenilbofncfbdaa

def validS (a b s : Nat) : Prop := s.testBit a = true ∧ s.testBit b = false
instance (a b s : Nat) : Decidable (validS a b s) := by unfold validS; exact inferInstance
end Go.Proofs.Ytenilbofncfbdaa

namespace Go.Proofs.Ytenilbofncfbdaa

end Go.Proofs.Ytenilbofncfbdaa

namespace Go.Proofs.Ytenilbofncfbdaa
open Go.RowKit

end Go.Proofs.Ytenilbofncfbdaa

namespace Go.Proofs.Ytenilbofncfbdaa
open Go.RowKit

end Go.Proofs.Ytenilbofncfbdaa

namespace Go.Proofs.Ytenilbofncfbdaa
open Go.RowKit

end Go.Proofs.Ytenilbofncfbdaa

