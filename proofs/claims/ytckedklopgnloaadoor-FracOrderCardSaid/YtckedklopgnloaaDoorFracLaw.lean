/- What the laws over fractions share. -/
import Derived.Test.YtckedklopgnloaaDoorFracAwake
import Derived.Test.YtckedklopgnloaaDoorFrac5
namespace Go.Proofs.YtckedklopgnloaaDoor
open Go.RowKit

theorem frO_0 {W : World} {k : Nat} {a b : Int} (h : W.heap[k]? = some (frO a b)) : W.cell? ⟨k, 0, none⟩ = some (.int .i64 a) := cell_of_row _ _ 0 _ _ _ h
theorem frO_1 {W : World} {k : Nat} {a b : Int} (h : W.heap[k]? = some (frO a b)) : W.cell? ⟨k, 1, none⟩ = some (.int .i64 b) := cell_of_row _ _ 1 _ _ _ h
theorem enter1 (w : World) (an ad : Int) : Below w.heap.size w (w.alloc (.cells #[.int .i64 an, .int .i64 ad] 23)) ∧ (w.alloc (.cells #[.int .i64 an, .int .i64 ad] 23)).heap[w.heap.size]? = some (frO an ad) := box_new w an ad
theorem enter2 (w : World) (an ad bn bd : Int) : Below w.heap.size w ((w.alloc (.cells #[.int .i64 an, .int .i64 ad] 23)).alloc (.cells #[.int .i64 bn, .int .i64 bd] 23)) ∧
    ((w.alloc (.cells #[.int .i64 an, .int .i64 ad] 23)).alloc (.cells #[.int .i64 bn, .int .i64 bd] 23)).heap[w.heap.size]? = some (frO an ad) ∧
    ((w.alloc (.cells #[.int .i64 an, .int .i64 ad] 23)).alloc (.cells #[.int .i64 bn, .int .i64 bd] 23)).heap[w.heap.size + 1]? = some (frO bn bd) := by
  obtain ⟨g1, k1⟩ := box_new w an ad
  obtain ⟨g2, k2⟩ := box_new (w.alloc (.cells #[.int .i64 an, .int .i64 ad] 23)) bn bd
  refine ⟨g1.trans (g2.mono g1.size), stays k1 g2, ?_⟩
  have : (w.alloc (.cells #[.int .i64 an, .int .i64 ad] 23)).heap.size = w.heap.size + 1 := by simp
  rw [this] at k2
  exact k2
theorem enter3 (w : World) (an ad bn bd cn cd : Int) : Below w.heap.size w (((w.alloc (.cells #[.int .i64 an, .int .i64 ad] 23)).alloc (.cells #[.int .i64 bn, .int .i64 bd] 23)).alloc (.cells #[.int .i64 cn, .int .i64 cd] 23)) ∧
    (((w.alloc (.cells #[.int .i64 an, .int .i64 ad] 23)).alloc (.cells #[.int .i64 bn, .int .i64 bd] 23)).alloc (.cells #[.int .i64 cn, .int .i64 cd] 23)).heap[w.heap.size]? = some (frO an ad) ∧
    (((w.alloc (.cells #[.int .i64 an, .int .i64 ad] 23)).alloc (.cells #[.int .i64 bn, .int .i64 bd] 23)).alloc (.cells #[.int .i64 cn, .int .i64 cd] 23)).heap[w.heap.size + 1]? = some (frO bn bd) ∧
    (((w.alloc (.cells #[.int .i64 an, .int .i64 ad] 23)).alloc (.cells #[.int .i64 bn, .int .i64 bd] 23)).alloc (.cells #[.int .i64 cn, .int .i64 cd] 23)).heap[w.heap.size + 1 + 1]? = some (frO cn cd) := by
  obtain ⟨g1, k1, k2⟩ := enter2 w an ad bn bd
  obtain ⟨g2, k3⟩ := box_new ((w.alloc (.cells #[.int .i64 an, .int .i64 ad] 23)).alloc (.cells #[.int .i64 bn, .int .i64 bd] 23)) cn cd
  refine ⟨g1.trans (g2.mono g1.size), stays k1 g2, stays k2 g2, ?_⟩
  have : ((w.alloc (.cells #[.int .i64 an, .int .i64 ad] 23)).alloc (.cells #[.int .i64 bn, .int .i64 bd] 23)).heap.size = w.heap.size + 1 + 1 := by simp
  rw [this] at k3
  exact k3

end Go.Proofs.YtckedklopgnloaaDoor
