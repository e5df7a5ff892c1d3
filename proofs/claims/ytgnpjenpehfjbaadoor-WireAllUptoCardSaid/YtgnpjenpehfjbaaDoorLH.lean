/- A byte that came in; the bulk of packets' bodies. -/
import Derived.Test.YtgnpjenpehfjbaaDoorMX
import Derived.Test.YtgnpjenpehfjbaaDoorMU
set_option linter.unusedSimpArgs false
set_option linter.unusedVariables false
namespace Go.Proofs.YtgnpjenpehfjbaaDoor
open Go.ChangeShapes Go.WideShapes Go.ChangeAt Go.RowKit

set_option maxRecDepth 100000 in
theorem read_u8 {W : World} {base : Nat} {n : Int} (h : Value.okWide Tryd.prog W .any base 5 (.int .u8 n)) : ∃ x : UInt8, n = (x.toNat : Int) := by
  simp only [Value.okWide, Tryd.underlying5, Cell.okWide, Cell.ok, IntKind.has, IntKind.min, IntKind.max, IntKind.signed, IntKind.bits] at h
  refine ⟨UInt8.ofNat n.toNat, ?_⟩
  simp at h
  simp
  omega
theorem items_bulk {xs : List Itm} (h : ∀ x ∈ xs, Itm64 x) : (xs.flatMap itemR).length ≤ 10 * bulkX xs := by
  induction xs with
  | nil => simp
  | cons x r ih =>
    have h1 := itemR_len (h x List.mem_cons_self)
    have h2 := ih fun y hy => h y (List.mem_cons_of_mem _ hy)
    unfold bulkX at h2 ⊢
    rw [List.flatMap_cons, List.length_append, List.map_cons, List.sum_cons]
    omega
theorem bodyR_bulk {p : Pkt} (h : ∀ x ∈ p.items, Itm64 x) : (bodyR p).length ≤ 80 + 10 * bulkX p.items := by
  have h1 := headR_len p
  have h2 := num_len (p.items.length : Int)
  have h3 := items_bulk h
  unfold bodyR
  rw [List.length_append, List.length_append]
  omega
theorem forgeF_bulk {p : Pkt} (h : ∀ x ∈ p.items, Itm64 x) : (forgeF p).length ≤ 88 * (bulkX p.items + 1) := by
  have h1 := bodyR_bulk h
  unfold forgeF
  split
  · unfold frameOf len2 le32
    simp
    omega
  · simp

end Go.Proofs.YtgnpjenpehfjbaaDoor

