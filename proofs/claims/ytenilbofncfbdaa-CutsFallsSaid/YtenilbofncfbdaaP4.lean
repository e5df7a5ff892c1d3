/- Cuts: what parts two nodes, and that with one pair of it again a way leads: plain. No program here. -/
import Derived.Test.YtenilbofncfbdaaCM
import Derived.Test.YtenilbofncfbdaaCB
set_option linter.unusedSimpArgs false
set_option linter.unusedVariables false
namespace Go.Proofs.Ytenilbofncfbdaa

end Go.Proofs.Ytenilbofncfbdaa

