/- From what an argument reads as to what the walks ask of it: numbers. -/
import Derived.Test.YtgnpjenpehfjbaaDoorMM
set_option linter.unusedSimpArgs false
set_option linter.unusedVariables false
namespace Go.Proofs.YtgnpjenpehfjbaaDoor
open Go.ChangeShapes Go.WideShapes Go.ChangeAt Go.RowKit

set_option maxRecDepth 100000 in
theorem read_i64 {W : World} {base : Nat} {t : TypeId} {n : Int} (ht : Tryd.prog.underlying t = some (.int .i64)) (h : Value.okWide Tryd.prog W .any base t (.int .i64 n)) : -9223372036854775808 ≤ n ∧ n < 9223372036854775808 := by
  simp only [Value.okWide, ht, Cell.okWide, Cell.ok, IntKind.has, IntKind.min, IntKind.max, IntKind.signed, IntKind.bits] at h
  simp at h
  omega

end Go.Proofs.YtgnpjenpehfjbaaDoor

