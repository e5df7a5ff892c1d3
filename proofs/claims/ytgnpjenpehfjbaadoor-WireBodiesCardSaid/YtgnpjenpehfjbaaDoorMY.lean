/- Plain laws about frames: what Open tells of a frame with bytes behind, and of a frame's beginning. -/
import Derived.Test.YtgnpjenpehfjbaaDoorMA
set_option linter.unusedSimpArgs false
set_option linter.unusedVariables false
namespace Go.Proofs.YtgnpjenpehfjbaaDoor

theorem frameOf_len (l : List UInt8) : (frameOf l).length = l.length + 8 := by unfold frameOf len2 le32; simp

end Go.Proofs.YtgnpjenpehfjbaaDoor

