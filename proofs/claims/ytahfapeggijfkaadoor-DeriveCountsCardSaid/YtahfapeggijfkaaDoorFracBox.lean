/- Boxes of fractions: what a law over fractions keeps (the same as in FracAwake and FracLaw, for seats without chapter 2's own laws). -/
import Derived.Test.YtahfapeggijfkaaDoorFrac4
import Derived.Lib.SmallJoins
namespace Go.Proofs.YtahfapeggijfkaaDoor
open Go.RowKit

/-- a fraction's block -/
def frO (n d : Int) : Obj := .cells #[.int .i64 n, .int .i64 d] 23 (0, 0)
/-- a fraction in a new box -/
theorem box_new (w : World) (a b : Int) : Below w.heap.size w (w.alloc (.cells #[.int .i64 a, .int .i64 b] 23)) ∧ (w.alloc (.cells #[.int .i64 a, .int .i64 b] 23)).heap[w.heap.size]? = some (frO a b) :=
  ⟨bel_alloc (Below.refl _ _) (Nat.le_refl _), heap_alloc_new _ _⟩
/-- a block that is there stays -/
theorem stays {W W' : World} {k : Nat} {o : Obj} (h : W.heap[k]? = some o) (hb : Below W.heap.size W W') : W'.heap[k]? = some o := (hb.block _ (Array.getElem?_eq_some_iff.1 h).1).trans h

theorem frO_0 {W : World} {k : Nat} {a b : Int} (h : W.heap[k]? = some (frO a b)) : W.cell? ⟨k, 0, none⟩ = some (.int .i64 a) := cell_of_row _ _ 0 _ _ _ h
theorem frO_1 {W : World} {k : Nat} {a b : Int} (h : W.heap[k]? = some (frO a b)) : W.cell? ⟨k, 1, none⟩ = some (.int .i64 b) := cell_of_row _ _ 1 _ _ _ h
theorem box_set {W : World} {k : Nat} {a b : Int} (n d : Int) (h : W.heap[k]? = some (frO a b)) : (∀ B, B ≤ k → Below B W ((W.setCell ⟨k, 0, none⟩ (.int .i64 n)).setCell ⟨k, 1, none⟩ (.int .i64 d))) ∧
    ((W.setCell ⟨k, 0, none⟩ (.int .i64 n)).setCell ⟨k, 1, none⟩ (.int .i64 d)).heap[k]? = some (frO n d) ∧ ∀ j, j ≠ k → ((W.setCell ⟨k, 0, none⟩ (.int .i64 n)).setCell ⟨k, 1, none⟩ (.int .i64 d)).heap[j]? = W.heap[j]? := by
  refine ⟨fun B hB => bel_set hB (bel_set hB (Below.refl _ _)), ?_, fun j hj => ?_⟩
  · have h1 := heap_setCell_same W k 0 _ _ (.int .i64 n) h
    rw [heap_setCell_same _ k 1 _ _ (.int .i64 d) h1]; rfl
  · rw [Below.heap_setCell _ _ _ _ hj, Below.heap_setCell _ _ _ _ hj]
theorem frz0 {W : World} {k : Nat} {a b : Int} (h : W.heap[k]? = some (frO a b)) : W.frozen? ⟨k, 0, none⟩ = false := frozen_of_row _ _ 0 _ _ h
theorem frz1 {W : World} {k : Nat} {a b : Int} (h : W.heap[k]? = some (frO a b)) : W.frozen? ⟨k, 1, none⟩ = false := frozen_of_row _ _ 1 _ _ h
theorem enter1 (w : World) (an ad : Int) : Below w.heap.size w (w.alloc (.cells #[.int .i64 an, .int .i64 ad] 23)) ∧ (w.alloc (.cells #[.int .i64 an, .int .i64 ad] 23)).heap[w.heap.size]? = some (frO an ad) := box_new w an ad
theorem enter2 (w : World) (an ad bn bd : Int) : Below w.heap.size w ((w.alloc (.cells #[.int .i64 an, .int .i64 ad] 23)).alloc (.cells #[.int .i64 bn, .int .i64 bd] 23)) ∧
    ((w.alloc (.cells #[.int .i64 an, .int .i64 ad] 23)).alloc (.cells #[.int .i64 bn, .int .i64 bd] 23)).heap[w.heap.size]? = some (frO an ad) ∧
    ((w.alloc (.cells #[.int .i64 an, .int .i64 ad] 23)).alloc (.cells #[.int .i64 bn, .int .i64 bd] 23)).heap[w.heap.size + 1]? = some (frO bn bd) := by
  obtain ⟨g1, k1⟩ := box_new w an ad
  obtain ⟨g2, k2⟩ := box_new (w.alloc (.cells #[.int .i64 an, .int .i64 ad] 23)) bn bd
  refine ⟨g1.trans (g2.mono g1.size), stays k1 g2, ?_⟩
  have : (w.alloc (.cells #[.int .i64 an, .int .i64 ad] 23)).heap.size = w.heap.size + 1 := by simp
  rw [this] at k2
  exact k2
theorem enter3 (w : World) (an ad bn bd cn cd : Int) : Below w.heap.size w (((w.alloc (.cells #[.int .i64 an, .int .i64 ad] 23)).alloc (.cells #[.int .i64 bn, .int .i64 bd] 23)).alloc (.cells #[.int .i64 cn, .int .i64 cd] 23)) ∧
    (((w.alloc (.cells #[.int .i64 an, .int .i64 ad] 23)).alloc (.cells #[.int .i64 bn, .int .i64 bd] 23)).alloc (.cells #[.int .i64 cn, .int .i64 cd] 23)).heap[w.heap.size]? = some (frO an ad) ∧
    (((w.alloc (.cells #[.int .i64 an, .int .i64 ad] 23)).alloc (.cells #[.int .i64 bn, .int .i64 bd] 23)).alloc (.cells #[.int .i64 cn, .int .i64 cd] 23)).heap[w.heap.size + 1]? = some (frO bn bd) ∧
    (((w.alloc (.cells #[.int .i64 an, .int .i64 ad] 23)).alloc (.cells #[.int .i64 bn, .int .i64 bd] 23)).alloc (.cells #[.int .i64 cn, .int .i64 cd] 23)).heap[w.heap.size + 1 + 1]? = some (frO cn cd) := by
  obtain ⟨g1, k1, k2⟩ := enter2 w an ad bn bd
  obtain ⟨g2, k3⟩ := box_new ((w.alloc (.cells #[.int .i64 an, .int .i64 ad] 23)).alloc (.cells #[.int .i64 bn, .int .i64 bd] 23)) cn cd
  refine ⟨g1.trans (g2.mono g1.size), stays k1 g2, stays k2 g2, ?_⟩
  have : ((w.alloc (.cells #[.int .i64 an, .int .i64 ad] 23)).alloc (.cells #[.int .i64 bn, .int .i64 bd] 23)).heap.size = w.heap.size + 1 + 1 := by simp
  rw [this] at k3
  exact k3

end Go.Proofs.YtahfapeggijfkaaDoor
