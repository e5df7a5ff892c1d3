/- Wire: the program's Same; unlike packets have unlike bytes (by program: wip/tools/gen_wire29.py). -/
import Derived.Test.YtgnpjenpehfjbaaDoorML
import Derived.Test.YtgnpjenpehfjbaaDoorMN
import Derived.Test.YtgnpjenpehfjbaaDoorMY
set_option linter.unusedSimpArgs false
set_option linter.unusedVariables false
namespace Go.Proofs.YtgnpjenpehfjbaaDoor
open Go.RowKit

end Go.Proofs.YtgnpjenpehfjbaaDoor

