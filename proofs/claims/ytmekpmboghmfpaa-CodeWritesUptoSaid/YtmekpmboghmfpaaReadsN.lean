/- From what an argument reads as to what the walks ask of it: numbers. -/
import Derived.Test.YtmekpmboghmfpaaReads
namespace Go.Proofs.Ytmekpmboghmfpaa
open Go.ChangeShapes Go.WideShapes Go.ChangeAt Go.RowKit

theorem read_u64 {W : World} {base : Nat} {t : TypeId} {n : Int} (ht : Try.prog.underlying t = some (.int .u64)) (h : Value.okWide Try.prog W .any base t (.int .u64 n)) : ∃ z : Nat, z < 18446744073709551616 ∧ n = (z : Int) := by
  simp only [Value.okWide, ht, Cell.okWide, Cell.ok, IntKind.has, IntKind.min, IntKind.max, IntKind.signed, IntKind.bits] at h
  refine ⟨n.toNat, ?_⟩
  simp at h
  omega
theorem read_i64 {W : World} {base : Nat} {t : TypeId} {n : Int} (ht : Try.prog.underlying t = some (.int .i64)) (h : Value.okWide Try.prog W .any base t (.int .i64 n)) : -9223372036854775808 ≤ n ∧ n < 9223372036854775808 := by
  simp only [Value.okWide, ht, Cell.okWide, Cell.ok, IntKind.has, IntKind.min, IntKind.max, IntKind.signed, IntKind.bits] at h
  simp at h
  omega

end Go.Proofs.Ytmekpmboghmfpaa
