/- Small laws for functions that range over a function (the same as in Hist17). -/
import Derived.Test.YtgnpjenpehfjbaaDoorRangeA
import Derived.WalkMore
namespace Go.Proofs.YtgnpjenpehfjbaaDoor
open Go.RowKit

/-- a row stays under a turn of a block that is no row -/
theorem row_put {W : World} {k l : Nat} {cs : Array Value} {t : TypeId} {fr : Nat × Nat} {o : Obj} (o' : Obj) (h : W.heap[k]? = some (.cells cs t fr)) (hl : W.heap[l]? = some o) (hc : o.isCells = false) : (W.putObj l o').heap[k]? = some (.cells cs t fr) := by
  have : l ≠ k := by rintro rfl; rw [h] at hl; cases hl; simp [Obj.isCells] at hc
  rw [World.putObj_heap_other (by omega)]; exact h

theorem marks_ret {F : Fence} {n : Nat} {P : Program} {fn : Func} {R : Ending → World → Prop} {a : Act} {w : World} {v : Value} (hr : (results fn a.tmps).run P w = .ok v w) (hd : a.defers = []) (hR : R (.returned v) w) : bodyPostM F n P fn R .ret a w := by
  show LeavesInM F n P fn a.tmps R a.defers .returning w
  rw [hd]
  exact ⟨v, hr, hR⟩
theorem marks_ret1 {F : Fence} {n : Nat} {P : Program} {fn : Func} {R : Ending → World → Prop} {a : Act} {w : World} {v : Value} {D : Nat} (hd : a.defers = [{ target := .collected D, args := #[] }]) (hD : w.heap[D]? = some (.deferred (some []))) (hr : (results fn a.tmps).run P (w.putObj D (.deferred none)) = .ok v (w.putObj D (.deferred none))) (hR : R (.returned v) (w.putObj D (.deferred none))) : bodyPostM F n P fn R .ret a w := by
  show LeavesInM F n P fn a.tmps R a.defers .returning w
  rw [hd]
  exact ⟨by simp, .inl ⟨_, _, rfl, run_takeDeferred hD, v, hr, hR⟩⟩

end Go.Proofs.YtgnpjenpehfjbaaDoor
