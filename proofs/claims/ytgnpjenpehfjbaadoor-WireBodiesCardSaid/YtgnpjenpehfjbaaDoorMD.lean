/- Wire: the program's Item (by program: wip/tools/gen_wire5.py). -/
import Derived.Test.YtgnpjenpehfjbaaDoorMC
set_option linter.unusedSimpArgs false
set_option linter.unusedVariables false
namespace Go.Proofs.YtgnpjenpehfjbaaDoor
open Go.RowKit

def J10.cells (nm : ByteArray) (epoch maker : Int) (alive : Bool) (kind scale ver writer flow : Int) (hasRest : Bool) (rest : Int) (m1 : Bool) (m2 m3 m4 : Int) (x1 : Bool) (x2 x3 x4 : Int) : Bool → Bool → Array Value
  | true, true => #[.string nm, .int .i64 epoch, .int .i64 maker, .bool alive, .int .i64 kind, .int .i64 scale, .int .i64 0, .int .i64 0, .int .i64 0, .bool false, .int .i64 0, .bool m1, .int .i64 m2, .int .i64 m3, .int .i64 m4, .bool x1, .int .i64 x2, .int .i64 x3, .int .i64 x4]
  | true, false => #[.string nm, .int .i64 epoch, .int .i64 maker, .bool alive, .int .i64 kind, .int .i64 scale, .int .i64 0, .int .i64 0, .int .i64 0, .bool false, .int .i64 0, .bool m1, .int .i64 m2, .int .i64 m3, .int .i64 m4, .bool false, .int .i64 0, .int .i64 0, .int .i64 0]
  | false, true => #[.string nm, .int .i64 epoch, .int .i64 maker, .bool alive, .int .i64 kind, .int .i64 scale, .int .i64 0, .int .i64 0, .int .i64 0, .bool false, .int .i64 0, .bool false, .int .i64 0, .int .i64 0, .int .i64 0, .bool x1, .int .i64 x2, .int .i64 x3, .int .i64 x4]
  | false, false => #[.string nm, .int .i64 epoch, .int .i64 maker, .bool alive, .int .i64 kind, .int .i64 scale, .int .i64 0, .int .i64 0, .int .i64 0, .bool false, .int .i64 0, .bool false, .int .i64 0, .int .i64 0, .int .i64 0, .bool false, .int .i64 0, .int .i64 0, .int .i64 0]
structure J10 (w : World) (nm : ByteArray) (epoch maker : Int) (alive : Bool) (kind scale ver writer flow : Int) (hasRest : Bool) (rest : Int) (m1 : Bool) (m2 m3 m4 : Int) (x1 : Bool) (x2 x3 x4 : Int) (b5 b7 : Bool) (W : World) : Prop where
  low : Below w.heap.size w W
  x : W.heap[w.heap.size]? = some (.cells #[.string nm, .int .i64 epoch, .int .i64 maker, .bool alive, .int .i64 kind, .int .i64 scale, .int .i64 ver, .int .i64 writer, .int .i64 flow, .bool hasRest, .int .i64 rest, .bool m1, .int .i64 m2, .int .i64 m3, .int .i64 m4, .bool x1, .int .i64 x2, .int .i64 x3, .int .i64 x4] 38 (0, 0))
  c : W.heap[w.heap.size + 1]? = some (.cells #[.string nm, .int .i64 epoch, .int .i64 maker, .bool alive, .int .i64 kind, .int .i64 scale] 32 (0, 0))
  p : W.heap[w.heap.size + 1 + 1]? = some (.cells (J10.cells nm epoch maker alive kind scale ver writer flow hasRest rest m1 m2 m3 m4 x1 x2 x3 x4 b5 b7) 38 (0, 0))
  sz : W.heap.size = w.heap.size + 1 + 1 + 1
theorem J10.start {w W : World} {nm : ByteArray} {epoch maker : Int} {alive : Bool} {kind scale ver writer flow : Int} {hasRest : Bool} {rest : Int} {m1 : Bool} {m2 m3 m4 : Int} {x1 : Bool} {x2 x3 x4 : Int} (l : Below w.heap.size w W) (hx : W.heap[w.heap.size]? = some (.cells #[.string nm, .int .i64 epoch, .int .i64 maker, .bool alive, .int .i64 kind, .int .i64 scale, .int .i64 ver, .int .i64 writer, .int .i64 flow, .bool hasRest, .int .i64 rest, .bool m1, .int .i64 m2, .int .i64 m3, .int .i64 m4, .bool x1, .int .i64 x2, .int .i64 x3, .int .i64 x4] 38 (0, 0))) (hc : W.heap[w.heap.size + 1]? = some (.cells #[.string nm, .int .i64 epoch, .int .i64 maker, .bool alive, .int .i64 kind, .int .i64 scale] 32 (0, 0))) (hp : W.heap[w.heap.size + 1 + 1]? = some (.cells #[.string nm, .int .i64 epoch, .int .i64 maker, .bool alive, .int .i64 kind, .int .i64 scale, .int .i64 0, .int .i64 0, .int .i64 0, .bool false, .int .i64 0, .bool false, .int .i64 0, .int .i64 0, .int .i64 0, .bool false, .int .i64 0, .int .i64 0, .int .i64 0] 38 (0, 0))) (hs : W.heap.size = w.heap.size + 1 + 1 + 1) : J10 w nm epoch maker alive kind scale ver writer flow hasRest rest m1 m2 m3 m4 x1 x2 x3 x4 false false W.drew := ⟨l.drew, hx, hc, hp, hs⟩
theorem J10.mn {w W : World} {nm : ByteArray} {epoch maker : Int} {alive : Bool} {kind scale ver writer flow : Int} {hasRest : Bool} {rest : Int} {m1 : Bool} {m2 m3 m4 : Int} {x1 : Bool} {x2 x3 x4 : Int} {b7 : Bool} (h : J10 w nm epoch maker alive kind scale ver writer flow hasRest rest m1 m2 m3 m4 x1 x2 x3 x4 false b7 W) : J10 w nm epoch maker alive kind scale ver writer flow hasRest rest m1 m2 m3 m4 x1 x2 x3 x4 true b7 (W.setCells (w.heap.size + 1 + 1) 11 [.bool m1, .int .i64 m2, .int .i64 m3, .int .i64 m4]) := by
  refine ⟨setCells_below (by omega) _ _ _ _ h.low, (setCells_other _ _ _ _ _ (by omega)).trans h.x, (setCells_other _ _ _ _ _ (by omega)).trans h.c, ?_, by simp [World.setCells, World.setCell, h.sz]⟩
  have := setCells_block _ _ [.bool m1, .int .i64 m2, .int .i64 m3, .int .i64 m4] 11 _ _ h.p
  cases b7 <;> exact this
theorem J10.mx {w W : World} {nm : ByteArray} {epoch maker : Int} {alive : Bool} {kind scale ver writer flow : Int} {hasRest : Bool} {rest : Int} {m1 : Bool} {m2 m3 m4 : Int} {x1 : Bool} {x2 x3 x4 : Int} {b5 : Bool} (h : J10 w nm epoch maker alive kind scale ver writer flow hasRest rest m1 m2 m3 m4 x1 x2 x3 x4 b5 false W) : J10 w nm epoch maker alive kind scale ver writer flow hasRest rest m1 m2 m3 m4 x1 x2 x3 x4 b5 true (W.setCells (w.heap.size + 1 + 1) 15 [.bool x1, .int .i64 x2, .int .i64 x3, .int .i64 x4]) := by
  refine ⟨setCells_below (by omega) _ _ _ _ h.low, (setCells_other _ _ _ _ _ (by omega)).trans h.x, (setCells_other _ _ _ _ _ (by omega)).trans h.c, ?_, by simp [World.setCells, World.setCell, h.sz]⟩
  have := setCells_block _ _ [.bool x1, .int .i64 x2, .int .i64 x3, .int .i64 x4] 15 _ _ h.p
  cases b5 <;> exact this
def J5.cells (nm : ByteArray) (epoch maker : Int) (alive : Bool) (kind scale ver writer flow : Int) (hasRest : Bool) (rest : Int) (m1 : Bool) (m2 m3 m4 : Int) (x1 : Bool) (x2 x3 x4 : Int) : Bool → Bool → Bool → Array Value
  | true, true, true => #[.string nm, .int .i64 epoch, .int .i64 maker, .bool alive, .int .i64 kind, .int .i64 scale, .int .i64 ver, .int .i64 writer, .int .i64 flow, .bool hasRest, .int .i64 rest, .bool false, .int .i64 0, .int .i64 0, .int .i64 0, .bool false, .int .i64 0, .int .i64 0, .int .i64 0]
  | true, true, false => #[.string nm, .int .i64 epoch, .int .i64 maker, .bool alive, .int .i64 kind, .int .i64 scale, .int .i64 ver, .int .i64 writer, .int .i64 flow, .bool hasRest, .int .i64 0, .bool false, .int .i64 0, .int .i64 0, .int .i64 0, .bool false, .int .i64 0, .int .i64 0, .int .i64 0]
  | true, false, true => #[.string nm, .int .i64 epoch, .int .i64 maker, .bool alive, .int .i64 kind, .int .i64 scale, .int .i64 ver, .int .i64 writer, .int .i64 flow, .bool false, .int .i64 rest, .bool false, .int .i64 0, .int .i64 0, .int .i64 0, .bool false, .int .i64 0, .int .i64 0, .int .i64 0]
  | true, false, false => #[.string nm, .int .i64 epoch, .int .i64 maker, .bool alive, .int .i64 kind, .int .i64 scale, .int .i64 ver, .int .i64 writer, .int .i64 flow, .bool false, .int .i64 0, .bool false, .int .i64 0, .int .i64 0, .int .i64 0, .bool false, .int .i64 0, .int .i64 0, .int .i64 0]
  | false, true, true => #[.string nm, .int .i64 epoch, .int .i64 maker, .bool alive, .int .i64 kind, .int .i64 scale, .int .i64 0, .int .i64 0, .int .i64 0, .bool hasRest, .int .i64 rest, .bool false, .int .i64 0, .int .i64 0, .int .i64 0, .bool false, .int .i64 0, .int .i64 0, .int .i64 0]
  | false, true, false => #[.string nm, .int .i64 epoch, .int .i64 maker, .bool alive, .int .i64 kind, .int .i64 scale, .int .i64 0, .int .i64 0, .int .i64 0, .bool hasRest, .int .i64 0, .bool false, .int .i64 0, .int .i64 0, .int .i64 0, .bool false, .int .i64 0, .int .i64 0, .int .i64 0]
  | false, false, true => #[.string nm, .int .i64 epoch, .int .i64 maker, .bool alive, .int .i64 kind, .int .i64 scale, .int .i64 0, .int .i64 0, .int .i64 0, .bool false, .int .i64 rest, .bool false, .int .i64 0, .int .i64 0, .int .i64 0, .bool false, .int .i64 0, .int .i64 0, .int .i64 0]
  | false, false, false => #[.string nm, .int .i64 epoch, .int .i64 maker, .bool alive, .int .i64 kind, .int .i64 scale, .int .i64 0, .int .i64 0, .int .i64 0, .bool false, .int .i64 0, .bool false, .int .i64 0, .int .i64 0, .int .i64 0, .bool false, .int .i64 0, .int .i64 0, .int .i64 0]
structure J5 (w : World) (nm : ByteArray) (epoch maker : Int) (alive : Bool) (kind scale ver writer flow : Int) (hasRest : Bool) (rest : Int) (m1 : Bool) (m2 m3 m4 : Int) (x1 : Bool) (x2 x3 x4 : Int) (b7 b9 b11 : Bool) (W : World) : Prop where
  low : Below w.heap.size w W
  x : W.heap[w.heap.size]? = some (.cells #[.string nm, .int .i64 epoch, .int .i64 maker, .bool alive, .int .i64 kind, .int .i64 scale, .int .i64 ver, .int .i64 writer, .int .i64 flow, .bool hasRest, .int .i64 rest, .bool m1, .int .i64 m2, .int .i64 m3, .int .i64 m4, .bool x1, .int .i64 x2, .int .i64 x3, .int .i64 x4] 38 (0, 0))
  c : W.heap[w.heap.size + 1]? = some (.cells #[.string nm, .int .i64 epoch, .int .i64 maker, .bool alive, .int .i64 kind, .int .i64 scale] 32 (0, 0))
  p : W.heap[w.heap.size + 1 + 1]? = some (.cells (J5.cells nm epoch maker alive kind scale ver writer flow hasRest rest m1 m2 m3 m4 x1 x2 x3 x4 b7 b9 b11) 38 (0, 0))
  sz : W.heap.size = w.heap.size + 1 + 1 + 1
theorem J5.start {w W : World} {nm : ByteArray} {epoch maker : Int} {alive : Bool} {kind scale ver writer flow : Int} {hasRest : Bool} {rest : Int} {m1 : Bool} {m2 m3 m4 : Int} {x1 : Bool} {x2 x3 x4 : Int} (l : Below w.heap.size w W) (hx : W.heap[w.heap.size]? = some (.cells #[.string nm, .int .i64 epoch, .int .i64 maker, .bool alive, .int .i64 kind, .int .i64 scale, .int .i64 ver, .int .i64 writer, .int .i64 flow, .bool hasRest, .int .i64 rest, .bool m1, .int .i64 m2, .int .i64 m3, .int .i64 m4, .bool x1, .int .i64 x2, .int .i64 x3, .int .i64 x4] 38 (0, 0))) (hc : W.heap[w.heap.size + 1]? = some (.cells #[.string nm, .int .i64 epoch, .int .i64 maker, .bool alive, .int .i64 kind, .int .i64 scale] 32 (0, 0))) (hp : W.heap[w.heap.size + 1 + 1]? = some (.cells #[.string nm, .int .i64 epoch, .int .i64 maker, .bool alive, .int .i64 kind, .int .i64 scale, .int .i64 0, .int .i64 0, .int .i64 0, .bool false, .int .i64 0, .bool false, .int .i64 0, .int .i64 0, .int .i64 0, .bool false, .int .i64 0, .int .i64 0, .int .i64 0] 38 (0, 0))) (hs : W.heap.size = w.heap.size + 1 + 1 + 1) : J5 w nm epoch maker alive kind scale ver writer flow hasRest rest m1 m2 m3 m4 x1 x2 x3 x4 false false false W.drew := ⟨l.drew, hx, hc, hp, hs⟩
theorem J5.reg {w W : World} {nm : ByteArray} {epoch maker : Int} {alive : Bool} {kind scale ver writer flow : Int} {hasRest : Bool} {rest : Int} {m1 : Bool} {m2 m3 m4 : Int} {x1 : Bool} {x2 x3 x4 : Int} {b9 b11 : Bool} (h : J5 w nm epoch maker alive kind scale ver writer flow hasRest rest m1 m2 m3 m4 x1 x2 x3 x4 false b9 b11 W) : J5 w nm epoch maker alive kind scale ver writer flow hasRest rest m1 m2 m3 m4 x1 x2 x3 x4 true b9 b11 (W.setCells (w.heap.size + 1 + 1) 6 [.int .i64 ver, .int .i64 writer, .int .i64 flow]) := by
  refine ⟨setCells_below (by omega) _ _ _ _ h.low, (setCells_other _ _ _ _ _ (by omega)).trans h.x, (setCells_other _ _ _ _ _ (by omega)).trans h.c, ?_, by simp [World.setCells, World.setCell, h.sz]⟩
  have := setCells_block _ _ [.int .i64 ver, .int .i64 writer, .int .i64 flow] 6 _ _ h.p
  cases b9 <;> cases b11 <;> exact this
theorem J5.has {w W : World} {nm : ByteArray} {epoch maker : Int} {alive : Bool} {kind scale ver writer flow : Int} {hasRest : Bool} {rest : Int} {m1 : Bool} {m2 m3 m4 : Int} {x1 : Bool} {x2 x3 x4 : Int} {b7 b11 : Bool} (h : J5 w nm epoch maker alive kind scale ver writer flow hasRest rest m1 m2 m3 m4 x1 x2 x3 x4 b7 false b11 W) : J5 w nm epoch maker alive kind scale ver writer flow hasRest rest m1 m2 m3 m4 x1 x2 x3 x4 b7 true b11 (W.setCell ⟨w.heap.size + 1 + 1, 9, none⟩ (.bool hasRest)) := by
  refine ⟨bel_set (by omega) h.low, (set_other _ _ _ _ _ (by omega)).trans h.x, (set_other _ _ _ _ _ (by omega)).trans h.c, ?_, by simp [World.setCell, h.sz]⟩
  have := set_block _ _ 9 _ _ (.bool hasRest) h.p
  cases b7 <;> cases b11 <;> exact this
theorem J5.c9 {w W : World} {nm : ByteArray} {epoch maker : Int} {alive : Bool} {kind scale ver writer flow : Int} {hasRest : Bool} {rest : Int} {m1 : Bool} {m2 m3 m4 : Int} {x1 : Bool} {x2 x3 x4 : Int} {b7 b11 : Bool} (h : J5 w nm epoch maker alive kind scale ver writer flow hasRest rest m1 m2 m3 m4 x1 x2 x3 x4 b7 false b11 W) : W.cell? ⟨w.heap.size + 1 + 1, 9, none⟩ = some (.bool false) := by
  have := cell_of_row _ _ 9 _ _ _ h.p
  cases b7 <;> cases b11 <;> exact this
theorem J5.res {w W : World} {nm : ByteArray} {epoch maker : Int} {alive : Bool} {kind scale ver writer flow : Int} {hasRest : Bool} {rest : Int} {m1 : Bool} {m2 m3 m4 : Int} {x1 : Bool} {x2 x3 x4 : Int} {b7 b9 : Bool} (h : J5 w nm epoch maker alive kind scale ver writer flow hasRest rest m1 m2 m3 m4 x1 x2 x3 x4 b7 b9 false W) : J5 w nm epoch maker alive kind scale ver writer flow hasRest rest m1 m2 m3 m4 x1 x2 x3 x4 b7 b9 true (W.setCell ⟨w.heap.size + 1 + 1, 10, none⟩ (.int .i64 rest)) := by
  refine ⟨bel_set (by omega) h.low, (set_other _ _ _ _ _ (by omega)).trans h.x, (set_other _ _ _ _ _ (by omega)).trans h.c, ?_, by simp [World.setCell, h.sz]⟩
  have := set_block _ _ 10 _ _ (.int .i64 rest) h.p
  cases b7 <;> cases b9 <;> exact this
theorem J5.c10 {w W : World} {nm : ByteArray} {epoch maker : Int} {alive : Bool} {kind scale ver writer flow : Int} {hasRest : Bool} {rest : Int} {m1 : Bool} {m2 m3 m4 : Int} {x1 : Bool} {x2 x3 x4 : Int} {b7 b9 : Bool} (h : J5 w nm epoch maker alive kind scale ver writer flow hasRest rest m1 m2 m3 m4 x1 x2 x3 x4 b7 b9 false W) : W.cell? ⟨w.heap.size + 1 + 1, 10, none⟩ = some (.int .i64 0) := by
  have := cell_of_row _ _ 10 _ _ _ h.p
  cases b7 <;> cases b9 <;> exact this

set_option maxRecDepth 100000 in
set_option maxHeartbeats 4000000 in
theorem item_main (name : List UInt8) (nm : ByteArray) (epoch maker : Int) (alive : Bool) (kind scale ver writer flow : Int) (hasRest : Bool) (rest : Int) (m1 : Bool) (m2 m3 m4 : Int) (x1 : Bool) (x2 x3 x4 : Int) (w : World)
    (hn : ∀ W, Calls Tryd.prog 19 #[.string nm] W fun e w' => e = .returned (.bool true) ∧ W = w')
    (hw1 : ∀ W, Calls Tryd.prog 29 #[.int .i64 epoch, .int .i64 1, .int .i64 1099511627776] W fun e w' => e = .returned (.bool true) ∧ W = w')
    (hd : ∀ W, Calls Tryd.prog 28 #[.int .i64 maker] W fun e w' => e = .returned (.bool true) ∧ W = w')
    (hw2 : ∀ W, Calls Tryd.prog 29 #[.int .i64 scale, .int .i64 1, .int .i64 1048576] W fun e w' => e = .returned (.bool true) ∧ W = w')
    (k1 : decide (kind < 1) = false) (k4 : decide (4 < kind) = false) :
    Calls Tryd.prog 17 #[.agg #[.string nm, .int .i64 epoch, .int .i64 maker, .bool alive, .int .i64 kind, .int .i64 scale, .int .i64 ver, .int .i64 writer, .int .i64 flow, .bool hasRest, .int .i64 rest, .bool m1, .int .i64 m2, .int .i64 m3, .int .i64 m4, .bool x1, .int .i64 x2, .int .i64 x3, .int .i64 x4]] w fun e w' => e = .returned (.bool (restB ⟨name, epoch, maker, alive, kind, scale, ver, writer, flow, hasRest, rest, ⟨m1, m2, m3, m4⟩, ⟨x1, x2, x3, x4⟩⟩)) ∧ Below w.heap.size w w' := by
  obtain ⟨R, hR⟩ : ∃ R, R = restB ⟨name, epoch, maker, alive, kind, scale, ver, writer, flow, hasRest, rest, ⟨m1, m2, m3, m4⟩, ⟨x1, x2, x3, x4⟩⟩ := ⟨_, rfl⟩
  rw [← hR]
  have HR := Lib.hid hR
  clear hR
  go_enter Tryd.func17, Tryd.ntmps17
  go_upto_region 4 with (first | (with_reducible refine (hn _).mono ?_; rintro e w' ⟨rfl, rfl⟩) | (with_reducible refine (hd _).mono ?_; rintro e w' ⟨rfl, rfl⟩) | (with_reducible refine (hw1 _).mono ?_; rintro e w' ⟨rfl, rfl⟩) | (with_reducible refine (hw2 _).mono ?_; rintro e w' ⟨rfl, rfl⟩))
  clear hn hw1 hd hw2 k1 k4
  refine wp_region_lit ?_
  refine wpList_run (v := .agg #[.string nm, .int .i64 epoch, .int .i64 maker, .bool alive, .int .i64 kind, .int .i64 scale]) (w' := ((w.alloc (.cells #[.string nm, .int .i64 epoch, .int .i64 maker, .bool alive, .int .i64 kind, .int .i64 scale, .int .i64 ver, .int .i64 writer, .int .i64 flow, .bool hasRest, .int .i64 rest, .bool m1, .int .i64 m2, .int .i64 m3, .int .i64 m4, .bool x1, .int .i64 x2, .int .i64 x3, .int .i64 x4] 38)).alloc (.cells #[.string nm, .int .i64 epoch, .int .i64 maker, .bool alive, .int .i64 kind, .int .i64 scale] 32))) rfl (by simp [go_sem, Act.eval]) ?_
  refine wpList_run (v := .agg #[.string nm, .int .i64 epoch, .int .i64 maker, .bool alive, .int .i64 kind, .int .i64 scale, .int .i64 0, .int .i64 0, .int .i64 0, .bool false, .int .i64 0, .bool false, .int .i64 0, .int .i64 0, .int .i64 0, .bool false, .int .i64 0, .int .i64 0, .int .i64 0]) (w' := ((w.alloc (.cells #[.string nm, .int .i64 epoch, .int .i64 maker, .bool alive, .int .i64 kind, .int .i64 scale, .int .i64 ver, .int .i64 writer, .int .i64 flow, .bool hasRest, .int .i64 rest, .bool m1, .int .i64 m2, .int .i64 m3, .int .i64 m4, .bool x1, .int .i64 x2, .int .i64 x3, .int .i64 x4] 38)).alloc (.cells #[.string nm, .int .i64 epoch, .int .i64 maker, .bool alive, .int .i64 kind, .int .i64 scale] 32))) rfl (by kernel_rfl) ?_
  refine wpList_run (v := .pointer (some ⟨(((w.alloc (.cells #[.string nm, .int .i64 epoch, .int .i64 maker, .bool alive, .int .i64 kind, .int .i64 scale, .int .i64 ver, .int .i64 writer, .int .i64 flow, .bool hasRest, .int .i64 rest, .bool m1, .int .i64 m2, .int .i64 m3, .int .i64 m4, .bool x1, .int .i64 x2, .int .i64 x3, .int .i64 x4] 38)).alloc (.cells #[.string nm, .int .i64 epoch, .int .i64 maker, .bool alive, .int .i64 kind, .int .i64 scale] 32))).heap.size, 0, none⟩)) (w' := (((w.alloc (.cells #[.string nm, .int .i64 epoch, .int .i64 maker, .bool alive, .int .i64 kind, .int .i64 scale, .int .i64 ver, .int .i64 writer, .int .i64 flow, .bool hasRest, .int .i64 rest, .bool m1, .int .i64 m2, .int .i64 m3, .int .i64 m4, .bool x1, .int .i64 x2, .int .i64 x3, .int .i64 x4] 38)).alloc (.cells #[.string nm, .int .i64 epoch, .int .i64 maker, .bool alive, .int .i64 kind, .int .i64 scale] 32))).alloc (.cells #[.string ⟨#[]⟩, .int .i64 0, .int .i64 0, .bool false, .int .i64 0, .int .i64 0, .int .i64 0, .int .i64 0, .int .i64 0, .bool false, .int .i64 0, .bool false, .int .i64 0, .int .i64 0, .int .i64 0, .bool false, .int .i64 0, .int .i64 0, .int .i64 0] 38)) rfl (by kernel_rfl) ?_
  refine wpList_store_new rfl rfl 38 _ _ rfl ((w.alloc (.cells #[.string nm, .int .i64 epoch, .int .i64 maker, .bool alive, .int .i64 kind, .int .i64 scale, .int .i64 ver, .int .i64 writer, .int .i64 flow, .bool hasRest, .int .i64 rest, .bool m1, .int .i64 m2, .int .i64 m3, .int .i64 m4, .bool x1, .int .i64 x2, .int .i64 x3, .int .i64 x4] 38)).alloc (.cells #[.string nm, .int .i64 epoch, .int .i64 maker, .bool alive, .int .i64 kind, .int .i64 scale] 32)) #[.string ⟨#[]⟩, .int .i64 0, .int .i64 0, .bool false, .int .i64 0, .int .i64 0, .int .i64 0, .int .i64 0, .int .i64 0, .bool false, .int .i64 0, .bool false, .int .i64 0, .int .i64 0, .int .i64 0, .bool false, .int .i64 0, .int .i64 0, .int .i64 0] #[.string nm, .int .i64 epoch, .int .i64 maker, .bool alive, .int .i64 kind, .int .i64 scale, .int .i64 0, .int .i64 0, .int .i64 0, .bool false, .int .i64 0, .bool false, .int .i64 0, .int .i64 0, .int .i64 0, .bool false, .int .i64 0, .int .i64 0, .int .i64 0] (by kernel_rfl) (by kernel_rfl) (by kernel_rfl) rfl (by simp [Value.oneCell']) ?_
  refine wpList_nil ?_
  go_simp
  have hall : ∀ W3 : World, W3 = ((w.alloc (.cells #[.string nm, .int .i64 epoch, .int .i64 maker, .bool alive, .int .i64 kind, .int .i64 scale, .int .i64 ver, .int .i64 writer, .int .i64 flow, .bool hasRest, .int .i64 rest, .bool m1, .int .i64 m2, .int .i64 m3, .int .i64 m4, .bool x1, .int .i64 x2, .int .i64 x3, .int .i64 x4] 38)).alloc (.cells #[.string nm, .int .i64 epoch, .int .i64 maker, .bool alive, .int .i64 kind, .int .i64 scale] 32)).alloc (.cells #[.string nm, .int .i64 epoch, .int .i64 maker, .bool alive, .int .i64 kind, .int .i64 scale, .int .i64 0, .int .i64 0, .int .i64 0, .bool false, .int .i64 0, .bool false, .int .i64 0, .int .i64 0, .int .i64 0, .bool false, .int .i64 0, .int .i64 0, .int .i64 0] 38) → Below w.heap.size w W3 ∧ W3.heap[w.heap.size]? = some (.cells #[.string nm, .int .i64 epoch, .int .i64 maker, .bool alive, .int .i64 kind, .int .i64 scale, .int .i64 ver, .int .i64 writer, .int .i64 flow, .bool hasRest, .int .i64 rest, .bool m1, .int .i64 m2, .int .i64 m3, .int .i64 m4, .bool x1, .int .i64 x2, .int .i64 x3, .int .i64 x4] 38 (0, 0)) ∧ W3.heap[w.heap.size + 1]? = some (.cells #[.string nm, .int .i64 epoch, .int .i64 maker, .bool alive, .int .i64 kind, .int .i64 scale] 32 (0, 0)) ∧ W3.heap[w.heap.size + 1 + 1]? = some (.cells #[.string nm, .int .i64 epoch, .int .i64 maker, .bool alive, .int .i64 kind, .int .i64 scale, .int .i64 0, .int .i64 0, .int .i64 0, .bool false, .int .i64 0, .bool false, .int .i64 0, .int .i64 0, .int .i64 0, .bool false, .int .i64 0, .int .i64 0, .int .i64 0] 38 (0, 0)) ∧ W3.heap.size = w.heap.size + 1 + 1 + 1 := by
    intro W3 hW3
    obtain ⟨g0, k0⟩ := new_block w (.cells #[.string nm, .int .i64 epoch, .int .i64 maker, .bool alive, .int .i64 kind, .int .i64 scale, .int .i64 ver, .int .i64 writer, .int .i64 flow, .bool hasRest, .int .i64 rest, .bool m1, .int .i64 m2, .int .i64 m3, .int .i64 m4, .bool x1, .int .i64 x2, .int .i64 x3, .int .i64 x4] 38)
    obtain ⟨g1, k1⟩ := new_block (w.alloc (.cells #[.string nm, .int .i64 epoch, .int .i64 maker, .bool alive, .int .i64 kind, .int .i64 scale, .int .i64 ver, .int .i64 writer, .int .i64 flow, .bool hasRest, .int .i64 rest, .bool m1, .int .i64 m2, .int .i64 m3, .int .i64 m4, .bool x1, .int .i64 x2, .int .i64 x3, .int .i64 x4] 38)) (.cells #[.string nm, .int .i64 epoch, .int .i64 maker, .bool alive, .int .i64 kind, .int .i64 scale] 32)
    obtain ⟨g2, k2⟩ := new_block ((w.alloc (.cells #[.string nm, .int .i64 epoch, .int .i64 maker, .bool alive, .int .i64 kind, .int .i64 scale, .int .i64 ver, .int .i64 writer, .int .i64 flow, .bool hasRest, .int .i64 rest, .bool m1, .int .i64 m2, .int .i64 m3, .int .i64 m4, .bool x1, .int .i64 x2, .int .i64 x3, .int .i64 x4] 38)).alloc (.cells #[.string nm, .int .i64 epoch, .int .i64 maker, .bool alive, .int .i64 kind, .int .i64 scale] 32)) (.cells #[.string nm, .int .i64 epoch, .int .i64 maker, .bool alive, .int .i64 kind, .int .i64 scale, .int .i64 0, .int .i64 0, .int .i64 0, .bool false, .int .i64 0, .bool false, .int .i64 0, .int .i64 0, .int .i64 0, .bool false, .int .i64 0, .int .i64 0, .int .i64 0] 38)
    have k0' := stays (stays k0 g1) g2
    have k1' := stays k1 g2
    have G := g0.trans ((g1.trans (g2.mono g1.size)).mono g0.size)
    rw [← hW3] at k0' k1' k2 G
    simp only [World.size_alloc] at k0' k1' k2
    exact ⟨G, k0', k1', k2, by rw [hW3]; simp⟩
  generalize hW3 : ((w.alloc (.cells #[.string nm, .int .i64 epoch, .int .i64 maker, .bool alive, .int .i64 kind, .int .i64 scale, .int .i64 ver, .int .i64 writer, .int .i64 flow, .bool hasRest, .int .i64 rest, .bool m1, .int .i64 m2, .int .i64 m3, .int .i64 m4, .bool x1, .int .i64 x2, .int .i64 x3, .int .i64 x4] 38)).alloc (.cells #[.string nm, .int .i64 epoch, .int .i64 maker, .bool alive, .int .i64 kind, .int .i64 scale] 32)).alloc (.cells #[.string nm, .int .i64 epoch, .int .i64 maker, .bool alive, .int .i64 kind, .int .i64 scale, .int .i64 0, .int .i64 0, .int .i64 0, .bool false, .int .i64 0, .bool false, .int .i64 0, .int .i64 0, .int .i64 0, .bool false, .int .i64 0, .int .i64 0, .int .i64 0] 38) = W3
  obtain ⟨L, kx, kc, kp, sz⟩ := hall W3 hW3.symm
  clear hW3 hall
  have L := Lib.hid L
  have KX := Lib.hid kx
  have KC := Lib.hid kc
  have KP := Lib.hid kp
  clear kx kc kp
  have c3 := cell_of_row _ _ 3 _ _ _ KC.out
  have c4 := cell_of_row _ _ 4 _ _ _ KC.out
  have c5 := cell_of_row _ _ 5 _ _ _ KC.out
  by_cases hA : kind = 4 ∧ scale ≠ 1
  · obtain ⟨rfl, hs⟩ := hA
    have hs' : (scale != 1) = true := by simpa using hs
    have HRB : Hid (R = false) := by show _ = _; rw [HR.out]; exact restB_bad _ rfl hs
    clear hs
    go_wp2
    go_ret
    have hr := HRB.out
    try simp at hr
    subst hr
    exact ⟨rfl, L.out⟩
  by_cases hk : kind = 4
  · subst hk
    have hs : scale = 1 := by
      rcases Classical.em (scale = 1) with h | h
      · exact h
      · exact absurd ⟨rfl, h⟩ hA
    subst hs
    cases alive
    · as_aux_lemma =>
      have HRB : Hid (R = eqBb ver writer flow hasRest rest m1 m2 m3 m4 x1 x2 x3 x4) := by show _ = _; rw [HR.out]; exact restB_dead ⟨name, epoch, maker, false, 4, 1, ver, writer, flow, hasRest, rest, ⟨m1, m2, m3, m4⟩, ⟨x1, x2, x3, x4⟩⟩ rfl hA
      have d6 := cell_of_row _ _ 6 _ _ _ KX.out
      have d7 := cell_of_row _ _ 7 _ _ _ KX.out
      have d8 := cell_of_row _ _ 8 _ _ _ KX.out
      have d9 := cell_of_row _ _ 9 _ _ _ KX.out
      have d10 := cell_of_row _ _ 10 _ _ _ KX.out
      have d11 := cell_of_row _ _ 11 _ _ _ KX.out
      have d12 := cell_of_row _ _ 12 _ _ _ KX.out
      have d13 := cell_of_row _ _ 13 _ _ _ KX.out
      have d14 := cell_of_row _ _ 14 _ _ _ KX.out
      have d15 := cell_of_row _ _ 15 _ _ _ KX.out
      have d16 := cell_of_row _ _ 16 _ _ _ KX.out
      have d17 := cell_of_row _ _ 17 _ _ _ KX.out
      have d18 := cell_of_row _ _ 18 _ _ _ KX.out
      have hne := fun W => ne_R ver writer flow W
      have heq := fun W => eq_B nm epoch maker false 4 1 ver writer flow hasRest rest m1 m2 m3 m4 x1 x2 x3 x4 W
      have HB0 : Hid (∃ b, b = eqBb ver writer flow hasRest rest m1 m2 m3 m4 x1 x2 x3 x4) := ⟨_, rfl⟩
      obtain ⟨b, hb⟩ := HB0.out
      rw [← hb] at heq
      have HB := Lib.hid hb
      obtain ⟨rz, hrz⟩ : ∃ r, r = (ver == 0 && writer == 0 && flow == 0) := ⟨_, rfl⟩
      rw [← hrz] at hne
      have HRZ := Lib.hid hrz
      clear hrz hb HB0
      rw [← HB.out] at HRB
      cases rz
      · have hbf : b = false := by rw [HB.out]; exact eqBb_reg HRZ.out
        subst hbf
        have hv := fun W => within_any ver 1 1099511627776 W
        have hnw := fun W => node_any writer W
        have hfl := fun W => flow_any flow W
        generalize inB ver 1 1099511627776 = bv at *
        generalize nodeB writer = bw at *
        generalize flowB flow = bf at *
        cases bv
        · clear hnw hfl
          as_aux_lemma =>
          go_wp2_with (first | (with_reducible refine (hv _).mono ?_; rintro e w' ⟨rfl, rfl⟩))
          go_ret
          have hr := HRB.out
          try simp at hr
          subst hr
          exact ⟨rfl, bel_alloc L.out (by rw [sz]; omega)⟩
        cases bw
        · clear hfl
          as_aux_lemma =>
          go_wp2_with (first | (with_reducible refine (hv _).mono ?_; rintro e w' ⟨rfl, rfl⟩) | (with_reducible refine (hnw _).mono ?_; rintro e w' ⟨rfl, rfl⟩))
          go_ret
          have hr := HRB.out
          try simp at hr
          subst hr
          exact ⟨rfl, bel_alloc L.out (by rw [sz]; omega)⟩
        cases bf
        · as_aux_lemma =>
          go_wp2_with (first | (with_reducible refine (hv _).mono ?_; rintro e w' ⟨rfl, rfl⟩) | (with_reducible refine (hnw _).mono ?_; rintro e w' ⟨rfl, rfl⟩) | (with_reducible refine (hfl _).mono ?_; rintro e w' ⟨rfl, rfl⟩))
          go_ret
          have hr := HRB.out
          try simp at hr
          subst hr
          exact ⟨rfl, bel_alloc L.out (by rw [sz]; omega)⟩
        as_aux_lemma =>
        go_upto_region 14 with (first | (with_reducible refine (hv _).mono ?_; rintro e w' ⟨rfl, rfl⟩) | (with_reducible refine (hnw _).mono ?_; rintro e w' ⟨rfl, rfl⟩) | (with_reducible refine (hfl _).mono ?_; rintro e w' ⟨rfl, rfl⟩))
        obtain ⟨g4, -⟩ := new_block W3 (.cells #[.int .i64 ver, .int .i64 writer, .int .i64 flow] 34)
        refine wp_region_lit ?_
        refine wpList_run rfl (exec_load_row 38 _ rfl (w.heap.size + 1 + 1) _ _ (.struct (Tryd.prog.fieldsOf 38)) (by kernel_rfl) (stays KP.out g4) (by kernel_rfl) rfl (by kernel_rfl)) ?_
        refine wpList_run rfl (exec_load_row 38 _ rfl (w.heap.size) _ _ (.struct (Tryd.prog.fieldsOf 38)) (by kernel_rfl) (stays KX.out g4) (by kernel_rfl) rfl (by kernel_rfl)) ?_
        refine wpList_run rfl (exec_eql_agg 38 _ _ _ rfl _ _ _ (by kernel_rfl) (by kernel_rfl) (by kernel_rfl) (heq _)) ?_
        clear g4
        go_wp2_with (first | (with_reducible refine (hv _).mono ?_; rintro e w' ⟨rfl, rfl⟩) | (with_reducible refine (hnw _).mono ?_; rintro e w' ⟨rfl, rfl⟩) | (with_reducible refine (hfl _).mono ?_; rintro e w' ⟨rfl, rfl⟩))
        go_ret
        have hr := HRB.out
        try simp at hr
        subst hr
        exact ⟨rfl, bel_alloc L.out (by rw [sz]; omega)⟩
      cases b
      · as_aux_lemma =>
        go_upto_region 14 with (fail)
        obtain ⟨g4, -⟩ := new_block W3 (.cells #[.int .i64 ver, .int .i64 writer, .int .i64 flow] 34)
        refine wp_region_lit ?_
        refine wpList_run rfl (exec_load_row 38 _ rfl (w.heap.size + 1 + 1) _ _ (.struct (Tryd.prog.fieldsOf 38)) (by kernel_rfl) (stays KP.out g4) (by kernel_rfl) rfl (by kernel_rfl)) ?_
        refine wpList_run rfl (exec_load_row 38 _ rfl (w.heap.size) _ _ (.struct (Tryd.prog.fieldsOf 38)) (by kernel_rfl) (stays KX.out g4) (by kernel_rfl) rfl (by kernel_rfl)) ?_
        refine wpList_run rfl (exec_eql_agg 38 _ _ _ rfl _ _ _ (by kernel_rfl) (by kernel_rfl) (by kernel_rfl) (heq _)) ?_
        clear g4
        go_wp2_with (fail)
        go_ret
        have hr := HRB.out
        try simp at hr
        subst hr
        exact ⟨rfl, bel_alloc L.out (by rw [sz]; omega)⟩
      · as_aux_lemma =>
        have hz := HB.out
        simp [eqBb] at hz
        obtain ⟨rfl, rfl, rfl, rfl, rfl, rfl, rfl, rfl, rfl, rfl, rfl, rfl, rfl⟩ := hz
        have hfl := fun W => flow_any 0 W
        rw [show flowB 0 = true from rfl] at hfl
        have he0 : ∀ W, Calls Tryd.prog 40 #[.agg #[.bool false, .int .i64 0, .int .i64 0, .int .i64 0]] W fun e w' => e = .returned (.bool true) ∧ Below W.heap.size W w' := fun W => ext_any zeroX W
        go_upto_region 14 with (first | (with_reducible refine (hfl _).mono ?_; rintro e w' ⟨rfl, rfl⟩))
        obtain ⟨g4, -⟩ := new_block W3 (.cells #[.int .i64 0, .int .i64 0, .int .i64 0] 34)
        refine wp_region_lit ?_
        refine wpList_run rfl (exec_load_row 38 _ rfl (w.heap.size + 1 + 1) _ _ (.struct (Tryd.prog.fieldsOf 38)) (by kernel_rfl) (stays KP.out g4) (by kernel_rfl) rfl (by kernel_rfl)) ?_
        refine wpList_run rfl (exec_load_row 38 _ rfl (w.heap.size) _ _ (.struct (Tryd.prog.fieldsOf 38)) (by kernel_rfl) (stays KX.out g4) (by kernel_rfl) rfl (by kernel_rfl)) ?_
        refine wpList_run rfl (exec_eql_agg 38 _ _ _ rfl _ _ _ (by kernel_rfl) (by kernel_rfl) (by kernel_rfl) (heq _)) ?_
        clear g4
        go_wp2_with (first | (with_reducible refine (hfl _).mono ?_; rintro e w' ⟨rfl, rfl⟩))
        with_reducible refine (he0 _).mono ?_
        rintro e w5 ⟨rfl, hB⟩
        obtain ⟨g4, -⟩ := new_block W3 (.cells #[.int .i64 0, .int .i64 0, .int .i64 0] 34)
        have KX5 := stays (stays KX.out g4) hB
        have L4 : Below w.heap.size w (W3.alloc (.cells #[.int .i64 0, .int .i64 0, .int .i64 0] 34)) := bel_alloc L.out (by rw [sz]; omega)
        have L5 := Lib.hid (L4.trans (hB.mono L4.size))
        have e15 := cell_of_row _ _ 15 _ _ _ KX5
        have e16 := cell_of_row _ _ 16 _ _ _ KX5
        have e17 := cell_of_row _ _ 17 _ _ _ KX5
        have e18 := cell_of_row _ _ 18 _ _ _ KX5
        clear KX5 g4 hB L4
        go_wp2_with (fail)
        with_reducible refine (he0 _).mono ?_
        rintro e w6 ⟨rfl, hB⟩
        have L6 := Lib.hid (L5.out.trans (hB.mono L5.out.size))
        clear hB
        go_wp2
        go_ret
        have hr := HRB.out
        try simp at hr
        subst hr
        exact ⟨rfl, L6.out⟩
    · as_aux_lemma =>
      go_wp2
      refine wp_flow_inv2 (by kernel_rfl) (by kernel_rfl) 8 6 (by kernel_rfl) (fun j => ([0, 1, 2, 3, 4, 6] : List Nat).getD j 0) (fun j => 68 + j) (by kernel_rfl) (by kernel_rfl) (by kernel_rfl) (by kernel_rfl) (by kernel_rfl) (by kernel_rfl) (by kernel_rfl) (fun j zv => ([(fun zv => zv = (.pointer (some ⟨w.heap.size, 11, none⟩))), (fun zv => zv = (.agg #[.bool m1, .int .i64 m2, .int .i64 m3, .int .i64 m4])), (fun zv => zv = (.pointer (some ⟨w.heap.size, 15, none⟩))), (fun zv => zv = (.agg #[.bool x1, .int .i64 x2, .int .i64 x3, .int .i64 x4])), (fun zv => zv = (.pointer (some ⟨w.heap.size + 1 + 1, 11, none⟩))), (fun zv => zv = (.pointer (some ⟨w.heap.size + 1 + 1, 15, none⟩)))] : List (Value → Prop)).getD j (fun _ => True) zv)
        (fun d _ W => J10 w nm epoch maker true 4 1 ver writer flow hasRest rest m1 m2 m3 m4 x1 x2 x3 x4 (d 5) (d 7) W) ?h0 ?step ?fin
      case h0 => exact fun _ => J10.start L.out KX.out KC.out KP.out sz
      case step =>
        intro i o a W d vs hi ho hdi hJ hf hr hF
        replace hi : i < 8 := hi
        rcases (show i = 0 ∨ i = 1 ∨ i = 2 ∨ i = 3 ∨ i = 4 ∨ i = 5 ∨ i = 6 ∨ i = 7 by omega) with rfl | rfl | rfl | rfl | rfl | rfl | rfl | rfl
        · replace ho := op_at ho (by rfl)
          subst ho
          have f1 : a.tmps.getD 1 undef = (.pointer (some ⟨w.heap.size, 0, none⟩)) := hf 1 (by kernel_rfl)
          exact .inl ⟨0, by decide, rfl, (.pointer (some ⟨w.heap.size, 11, none⟩)), W, (by simp [go_sem, Act.eval, f1]), rfl, hJ⟩
        · replace ho := op_at ho (by rfl)
          subst ho
          have d0 : a.tmps.getD 68 undef = (.pointer (some ⟨w.heap.size, 11, none⟩)) := by
            have h1 := hF 0 (by decide) (hr 0 (by kernel_rfl))
            exact h1.2.trans h1.1
          have c11 := cell_of_row _ _ 11 _ _ _ hJ.x
          have c12 := cell_of_row _ _ 12 _ _ _ hJ.x
          have c13 := cell_of_row _ _ 13 _ _ _ hJ.x
          have c14 := cell_of_row _ _ 14 _ _ _ hJ.x
          exact .inl ⟨1, by decide, rfl, (.agg #[.bool m1, .int .i64 m2, .int .i64 m3, .int .i64 m4]), W, (by simp [go_sem, Act.eval, d0, c11, c12, c13, c14]), rfl, hJ⟩
        · replace ho := op_at ho (by rfl)
          subst ho
          have f1 : a.tmps.getD 1 undef = (.pointer (some ⟨w.heap.size, 0, none⟩)) := hf 1 (by kernel_rfl)
          exact .inl ⟨2, by decide, rfl, (.pointer (some ⟨w.heap.size, 15, none⟩)), W, (by simp [go_sem, Act.eval, f1]), rfl, hJ⟩
        · replace ho := op_at ho (by rfl)
          subst ho
          have d2 : a.tmps.getD 70 undef = (.pointer (some ⟨w.heap.size, 15, none⟩)) := by
            have h1 := hF 2 (by decide) (hr 2 (by kernel_rfl))
            exact h1.2.trans h1.1
          have c15 := cell_of_row _ _ 15 _ _ _ hJ.x
          have c16 := cell_of_row _ _ 16 _ _ _ hJ.x
          have c17 := cell_of_row _ _ 17 _ _ _ hJ.x
          have c18 := cell_of_row _ _ 18 _ _ _ hJ.x
          exact .inl ⟨3, by decide, rfl, (.agg #[.bool x1, .int .i64 x2, .int .i64 x3, .int .i64 x4]), W, (by simp [go_sem, Act.eval, d2, c15, c16, c17, c18]), rfl, hJ⟩
        · replace ho := op_at ho (by rfl)
          subst ho
          have f4 : a.tmps.getD 4 undef = (.pointer (some ⟨w.heap.size + 1 + 1, 0, none⟩)) := hf 4 (by kernel_rfl)
          exact .inl ⟨4, by decide, rfl, (.pointer (some ⟨w.heap.size + 1 + 1, 11, none⟩)), W, (by simp [go_sem, Act.eval, f4]), rfl, hJ⟩
        · replace ho := op_at ho (by rfl)
          subst ho
          have d4 : a.tmps.getD 72 undef = (.pointer (some ⟨w.heap.size + 1 + 1, 11, none⟩)) := by
            have h1 := hF 4 (by decide) (hr 4 (by kernel_rfl))
            exact h1.2.trans h1.1
          have d1 : a.tmps.getD 69 undef = (.agg #[.bool m1, .int .i64 m2, .int .i64 m3, .int .i64 m4]) := by
            have h1 := hF 1 (by decide) (hr 1 (by kernel_rfl))
            exact h1.2.trans h1.1
          rw [hdi] at hJ
          exact .inr ⟨rfl, _, exec_store _ _ _ rfl _ _ d4 d1 (run_store_row (P := Tryd.prog) W (w.heap.size + 1 + 1) 11 _ _ 36 #[.bool m1, .int .i64 m2, .int .i64 m3, .int .i64 m4] hJ.p (by cases d 7 <;> simp [J10.cells]) (by kernel_rfl) (by simp [Value.oneCell'])), hJ.mn⟩
        · replace ho := op_at ho (by rfl)
          subst ho
          have f4 : a.tmps.getD 4 undef = (.pointer (some ⟨w.heap.size + 1 + 1, 0, none⟩)) := hf 4 (by kernel_rfl)
          exact .inl ⟨5, by decide, rfl, (.pointer (some ⟨w.heap.size + 1 + 1, 15, none⟩)), W, (by simp [go_sem, Act.eval, f4]), rfl, hJ⟩
        · replace ho := op_at ho (by rfl)
          subst ho
          have d6 : a.tmps.getD 73 undef = (.pointer (some ⟨w.heap.size + 1 + 1, 15, none⟩)) := by
            have h1 := hF 5 (by decide) (hr 6 (by kernel_rfl))
            exact h1.2.trans h1.1
          have d3 : a.tmps.getD 71 undef = (.agg #[.bool x1, .int .i64 x2, .int .i64 x3, .int .i64 x4]) := by
            have h1 := hF 3 (by decide) (hr 3 (by kernel_rfl))
            exact h1.2.trans h1.1
          rw [hdi] at hJ
          exact .inr ⟨rfl, _, exec_store _ _ _ rfl _ _ d6 d3 (run_store_row (P := Tryd.prog) W (w.heap.size + 1 + 1) 15 _ _ 36 #[.bool x1, .int .i64 x2, .int .i64 x3, .int .i64 x4] hJ.p (by cases d 5 <;> simp [J10.cells]) (by kernel_rfl) (by simp [Value.oneCell'])), hJ.mx⟩
      case fin =>
        intro d vs W4 hall hJ hF
        rw [hall 5 (by decide), hall 7 (by decide)] at hJ
        have h0 : vs 0 = (.pointer (some ⟨w.heap.size, 11, none⟩)) := hF 0 (by decide)
        have h1 : vs 1 = (.agg #[.bool m1, .int .i64 m2, .int .i64 m3, .int .i64 m4]) := hF 1 (by decide)
        have h2 : vs 2 = (.pointer (some ⟨w.heap.size, 15, none⟩)) := hF 2 (by decide)
        have h3 : vs 3 = (.agg #[.bool x1, .int .i64 x2, .int .i64 x3, .int .i64 x4]) := hF 3 (by decide)
        have h4 : vs 4 = (.pointer (some ⟨w.heap.size + 1 + 1, 11, none⟩)) := hF 4 (by decide)
        have h5 : vs 5 = (.pointer (some ⟨w.heap.size + 1 + 1, 15, none⟩)) := hF 5 (by decide)
        clear hall hF
        show (_ : Exit → Act → World → Prop) Exit.normal (puts _ vs 6 _) W4
        simp only [puts, h0, h1, h2, h3, h4, h5]
        clear h0 h1 h2 h3 h4 h5 L KX KC KP sz c3 c4 c5
        go_simp
        have L := Lib.hid hJ.low
        have KX := Lib.hid hJ.x
        have KC := Lib.hid hJ.c
        have KP := Lib.hid hJ.p
        have sz := hJ.sz
        clear hJ
        have HRB : Hid (R = (eqCb ver writer flow hasRest rest && (extB ⟨m1, m2, m3, m4⟩ && extB ⟨x1, x2, x3, x4⟩))) := by show _ = _; rw [HR.out]; exact restB_ext ⟨name, epoch, maker, true, 4, 1, ver, writer, flow, hasRest, rest, ⟨m1, m2, m3, m4⟩, ⟨x1, x2, x3, x4⟩⟩ rfl rfl rfl
        have d6 := cell_of_row _ _ 6 _ _ _ KX.out
        have d7 := cell_of_row _ _ 7 _ _ _ KX.out
        have d8 := cell_of_row _ _ 8 _ _ _ KX.out
        have d9 := cell_of_row _ _ 9 _ _ _ KX.out
        have d10 := cell_of_row _ _ 10 _ _ _ KX.out
        have d11 := cell_of_row _ _ 11 _ _ _ KX.out
        have d12 := cell_of_row _ _ 12 _ _ _ KX.out
        have d13 := cell_of_row _ _ 13 _ _ _ KX.out
        have d14 := cell_of_row _ _ 14 _ _ _ KX.out
        have d15 := cell_of_row _ _ 15 _ _ _ KX.out
        have d16 := cell_of_row _ _ 16 _ _ _ KX.out
        have d17 := cell_of_row _ _ 17 _ _ _ KX.out
        have d18 := cell_of_row _ _ 18 _ _ _ KX.out
        have hne := fun W => ne_R ver writer flow W
        have heq := fun W => eq_C nm epoch maker true 4 1 ver writer flow hasRest rest m1 m2 m3 m4 x1 x2 x3 x4 W
        have HB0 : Hid (∃ b, b = eqCb ver writer flow hasRest rest) := ⟨_, rfl⟩
        obtain ⟨b, hb⟩ := HB0.out
        rw [← hb] at heq
        have HB := Lib.hid hb
        obtain ⟨rz, hrz⟩ : ∃ r, r = (ver == 0 && writer == 0 && flow == 0) := ⟨_, rfl⟩
        rw [← hrz] at hne
        have HRZ := Lib.hid hrz
        clear hrz hb HB0
        rw [← HB.out] at HRB
        cases rz
        · have hbf : b = false := by rw [HB.out]; exact eqCb_reg HRZ.out
          subst hbf
          have hv := fun W => within_any ver 1 1099511627776 W
          have hnw := fun W => node_any writer W
          have hfl := fun W => flow_any flow W
          generalize inB ver 1 1099511627776 = bv at *
          generalize nodeB writer = bw at *
          generalize flowB flow = bf at *
          cases bv
          · clear hnw hfl
            as_aux_lemma =>
            go_wp2_with (first | (with_reducible refine (hv _).mono ?_; rintro e w' ⟨rfl, rfl⟩))
            go_ret
            have hr := HRB.out
            try simp at hr
            subst hr
            exact ⟨rfl, bel_alloc L.out (by rw [sz]; omega)⟩
          cases bw
          · clear hfl
            as_aux_lemma =>
            go_wp2_with (first | (with_reducible refine (hv _).mono ?_; rintro e w' ⟨rfl, rfl⟩) | (with_reducible refine (hnw _).mono ?_; rintro e w' ⟨rfl, rfl⟩))
            go_ret
            have hr := HRB.out
            try simp at hr
            subst hr
            exact ⟨rfl, bel_alloc L.out (by rw [sz]; omega)⟩
          cases bf
          · as_aux_lemma =>
            go_wp2_with (first | (with_reducible refine (hv _).mono ?_; rintro e w' ⟨rfl, rfl⟩) | (with_reducible refine (hnw _).mono ?_; rintro e w' ⟨rfl, rfl⟩) | (with_reducible refine (hfl _).mono ?_; rintro e w' ⟨rfl, rfl⟩))
            go_ret
            have hr := HRB.out
            try simp at hr
            subst hr
            exact ⟨rfl, bel_alloc L.out (by rw [sz]; omega)⟩
          as_aux_lemma =>
          go_upto_region 14 with (first | (with_reducible refine (hv _).mono ?_; rintro e w' ⟨rfl, rfl⟩) | (with_reducible refine (hnw _).mono ?_; rintro e w' ⟨rfl, rfl⟩) | (with_reducible refine (hfl _).mono ?_; rintro e w' ⟨rfl, rfl⟩))
          obtain ⟨g4, -⟩ := new_block W4 (.cells #[.int .i64 ver, .int .i64 writer, .int .i64 flow] 34)
          refine wp_region_lit ?_
          refine wpList_run rfl (exec_load_row 38 _ rfl (w.heap.size + 1 + 1) _ _ (.struct (Tryd.prog.fieldsOf 38)) (by kernel_rfl) (stays KP.out g4) (by kernel_rfl) rfl (by kernel_rfl)) ?_
          refine wpList_run rfl (exec_load_row 38 _ rfl (w.heap.size) _ _ (.struct (Tryd.prog.fieldsOf 38)) (by kernel_rfl) (stays KX.out g4) (by kernel_rfl) rfl (by kernel_rfl)) ?_
          refine wpList_run rfl (exec_eql_agg 38 _ _ _ rfl _ _ _ (by kernel_rfl) (by kernel_rfl) (by kernel_rfl) (heq _)) ?_
          clear g4
          go_wp2_with (first | (with_reducible refine (hv _).mono ?_; rintro e w' ⟨rfl, rfl⟩) | (with_reducible refine (hnw _).mono ?_; rintro e w' ⟨rfl, rfl⟩) | (with_reducible refine (hfl _).mono ?_; rintro e w' ⟨rfl, rfl⟩))
          go_ret
          have hr := HRB.out
          try simp at hr
          subst hr
          exact ⟨rfl, bel_alloc L.out (by rw [sz]; omega)⟩
        cases b
        · as_aux_lemma =>
          go_upto_region 14 with (fail)
          obtain ⟨g4, -⟩ := new_block W4 (.cells #[.int .i64 ver, .int .i64 writer, .int .i64 flow] 34)
          refine wp_region_lit ?_
          refine wpList_run rfl (exec_load_row 38 _ rfl (w.heap.size + 1 + 1) _ _ (.struct (Tryd.prog.fieldsOf 38)) (by kernel_rfl) (stays KP.out g4) (by kernel_rfl) rfl (by kernel_rfl)) ?_
          refine wpList_run rfl (exec_load_row 38 _ rfl (w.heap.size) _ _ (.struct (Tryd.prog.fieldsOf 38)) (by kernel_rfl) (stays KX.out g4) (by kernel_rfl) rfl (by kernel_rfl)) ?_
          refine wpList_run rfl (exec_eql_agg 38 _ _ _ rfl _ _ _ (by kernel_rfl) (by kernel_rfl) (by kernel_rfl) (heq _)) ?_
          clear g4
          go_wp2_with (fail)
          go_ret
          have hr := HRB.out
          try simp at hr
          subst hr
          exact ⟨rfl, bel_alloc L.out (by rw [sz]; omega)⟩
        · as_aux_lemma =>
          have hz := HB.out
          simp [eqCb] at hz
          obtain ⟨rfl, rfl, rfl, rfl, rfl⟩ := hz
          have hfl := fun W => flow_any 0 W
          rw [show flowB 0 = true from rfl] at hfl
          have hem : ∀ W, Calls Tryd.prog 40 #[.agg #[.bool m1, .int .i64 m2, .int .i64 m3, .int .i64 m4]] W fun e w' => e = .returned (.bool (extB ⟨m1, m2, m3, m4⟩)) ∧ Below W.heap.size W w' := fun W => ext_any ⟨m1, m2, m3, m4⟩ W
          have hex : ∀ W, Calls Tryd.prog 40 #[.agg #[.bool x1, .int .i64 x2, .int .i64 x3, .int .i64 x4]] W fun e w' => e = .returned (.bool (extB ⟨x1, x2, x3, x4⟩)) ∧ Below W.heap.size W w' := fun W => ext_any ⟨x1, x2, x3, x4⟩ W
          generalize extB ⟨m1, m2, m3, m4⟩ = em at *
          generalize extB ⟨x1, x2, x3, x4⟩ = ex at *
          go_upto_region 14 with (first | (with_reducible refine (hfl _).mono ?_; rintro e w' ⟨rfl, rfl⟩))
          obtain ⟨g4, -⟩ := new_block W4 (.cells #[.int .i64 0, .int .i64 0, .int .i64 0] 34)
          refine wp_region_lit ?_
          refine wpList_run rfl (exec_load_row 38 _ rfl (w.heap.size + 1 + 1) _ _ (.struct (Tryd.prog.fieldsOf 38)) (by kernel_rfl) (stays KP.out g4) (by kernel_rfl) rfl (by kernel_rfl)) ?_
          refine wpList_run rfl (exec_load_row 38 _ rfl (w.heap.size) _ _ (.struct (Tryd.prog.fieldsOf 38)) (by kernel_rfl) (stays KX.out g4) (by kernel_rfl) rfl (by kernel_rfl)) ?_
          refine wpList_run rfl (exec_eql_agg 38 _ _ _ rfl _ _ _ (by kernel_rfl) (by kernel_rfl) (by kernel_rfl) (heq _)) ?_
          clear g4
          go_wp2_with (first | (with_reducible refine (hfl _).mono ?_; rintro e w' ⟨rfl, rfl⟩))
          with_reducible refine (hem _).mono ?_
          rintro e w5 ⟨rfl, hB⟩
          obtain ⟨g4, -⟩ := new_block W4 (.cells #[.int .i64 0, .int .i64 0, .int .i64 0] 34)
          have KX5 := stays (stays KX.out g4) hB
          have L4 : Below w.heap.size w (W4.alloc (.cells #[.int .i64 0, .int .i64 0, .int .i64 0] 34)) := bel_alloc L.out (by rw [sz]; omega)
          have L5 := Lib.hid (L4.trans (hB.mono L4.size))
          have e15 := cell_of_row _ _ 15 _ _ _ KX5
          have e16 := cell_of_row _ _ 16 _ _ _ KX5
          have e17 := cell_of_row _ _ 17 _ _ _ KX5
          have e18 := cell_of_row _ _ 18 _ _ _ KX5
          clear KX5 g4 hB L4
          cases em
          · go_wp2
            go_ret
            have hr := HRB.out
            try simp at hr
            subst hr
            exact ⟨rfl, L5.out⟩
          go_wp2_with (fail)
          with_reducible refine (hex _).mono ?_
          rintro e w6 ⟨rfl, hB⟩
          have L6 := Lib.hid (L5.out.trans (hB.mono L5.out.size))
          clear hB
          go_wp2
          go_ret
          have hr := HRB.out
          try simp at hr
          subst hr
          exact ⟨rfl, L6.out⟩
  · have hk' : (kind == 4) = false := by simpa using hk
    have hkn : ¬ (kind = 4 ∧ scale ≠ 1) := hA
    have HK := Lib.hid hk
    have HA := Lib.hid hA
    clear hk hA hkn
    cases alive
    · as_aux_lemma =>
      have HRB : Hid (R = eqBb ver writer flow hasRest rest m1 m2 m3 m4 x1 x2 x3 x4) := by show _ = _; rw [HR.out]; exact restB_dead ⟨name, epoch, maker, false, kind, scale, ver, writer, flow, hasRest, rest, ⟨m1, m2, m3, m4⟩, ⟨x1, x2, x3, x4⟩⟩ rfl HA.out
      have d6 := cell_of_row _ _ 6 _ _ _ KX.out
      have d7 := cell_of_row _ _ 7 _ _ _ KX.out
      have d8 := cell_of_row _ _ 8 _ _ _ KX.out
      have d9 := cell_of_row _ _ 9 _ _ _ KX.out
      have d10 := cell_of_row _ _ 10 _ _ _ KX.out
      have d11 := cell_of_row _ _ 11 _ _ _ KX.out
      have d12 := cell_of_row _ _ 12 _ _ _ KX.out
      have d13 := cell_of_row _ _ 13 _ _ _ KX.out
      have d14 := cell_of_row _ _ 14 _ _ _ KX.out
      have d15 := cell_of_row _ _ 15 _ _ _ KX.out
      have d16 := cell_of_row _ _ 16 _ _ _ KX.out
      have d17 := cell_of_row _ _ 17 _ _ _ KX.out
      have d18 := cell_of_row _ _ 18 _ _ _ KX.out
      have hne := fun W => ne_R ver writer flow W
      have heq := fun W => eq_B nm epoch maker false kind scale ver writer flow hasRest rest m1 m2 m3 m4 x1 x2 x3 x4 W
      have HB0 : Hid (∃ b, b = eqBb ver writer flow hasRest rest m1 m2 m3 m4 x1 x2 x3 x4) := ⟨_, rfl⟩
      obtain ⟨b, hb⟩ := HB0.out
      rw [← hb] at heq
      have HB := Lib.hid hb
      obtain ⟨rz, hrz⟩ : ∃ r, r = (ver == 0 && writer == 0 && flow == 0) := ⟨_, rfl⟩
      rw [← hrz] at hne
      have HRZ := Lib.hid hrz
      clear hrz hb HB0
      rw [← HB.out] at HRB
      cases rz
      · have hbf : b = false := by rw [HB.out]; exact eqBb_reg HRZ.out
        subst hbf
        have hv := fun W => within_any ver 1 1099511627776 W
        have hnw := fun W => node_any writer W
        have hfl := fun W => flow_any flow W
        generalize inB ver 1 1099511627776 = bv at *
        generalize nodeB writer = bw at *
        generalize flowB flow = bf at *
        cases bv
        · clear hnw hfl
          as_aux_lemma =>
          go_wp2_with (first | (with_reducible refine (hv _).mono ?_; rintro e w' ⟨rfl, rfl⟩))
          go_ret
          have hr := HRB.out
          try simp at hr
          subst hr
          exact ⟨rfl, bel_alloc L.out (by rw [sz]; omega)⟩
        cases bw
        · clear hfl
          as_aux_lemma =>
          go_wp2_with (first | (with_reducible refine (hv _).mono ?_; rintro e w' ⟨rfl, rfl⟩) | (with_reducible refine (hnw _).mono ?_; rintro e w' ⟨rfl, rfl⟩))
          go_ret
          have hr := HRB.out
          try simp at hr
          subst hr
          exact ⟨rfl, bel_alloc L.out (by rw [sz]; omega)⟩
        cases bf
        · as_aux_lemma =>
          go_wp2_with (first | (with_reducible refine (hv _).mono ?_; rintro e w' ⟨rfl, rfl⟩) | (with_reducible refine (hnw _).mono ?_; rintro e w' ⟨rfl, rfl⟩) | (with_reducible refine (hfl _).mono ?_; rintro e w' ⟨rfl, rfl⟩))
          go_ret
          have hr := HRB.out
          try simp at hr
          subst hr
          exact ⟨rfl, bel_alloc L.out (by rw [sz]; omega)⟩
        as_aux_lemma =>
        go_upto_region 14 with (first | (with_reducible refine (hv _).mono ?_; rintro e w' ⟨rfl, rfl⟩) | (with_reducible refine (hnw _).mono ?_; rintro e w' ⟨rfl, rfl⟩) | (with_reducible refine (hfl _).mono ?_; rintro e w' ⟨rfl, rfl⟩))
        obtain ⟨g4, -⟩ := new_block W3 (.cells #[.int .i64 ver, .int .i64 writer, .int .i64 flow] 34)
        refine wp_region_lit ?_
        refine wpList_run rfl (exec_load_row 38 _ rfl (w.heap.size + 1 + 1) _ _ (.struct (Tryd.prog.fieldsOf 38)) (by kernel_rfl) (stays KP.out g4) (by kernel_rfl) rfl (by kernel_rfl)) ?_
        refine wpList_run rfl (exec_load_row 38 _ rfl (w.heap.size) _ _ (.struct (Tryd.prog.fieldsOf 38)) (by kernel_rfl) (stays KX.out g4) (by kernel_rfl) rfl (by kernel_rfl)) ?_
        refine wpList_run rfl (exec_eql_agg 38 _ _ _ rfl _ _ _ (by kernel_rfl) (by kernel_rfl) (by kernel_rfl) (heq _)) ?_
        clear g4
        go_wp2_with (first | (with_reducible refine (hv _).mono ?_; rintro e w' ⟨rfl, rfl⟩) | (with_reducible refine (hnw _).mono ?_; rintro e w' ⟨rfl, rfl⟩) | (with_reducible refine (hfl _).mono ?_; rintro e w' ⟨rfl, rfl⟩))
        go_ret
        have hr := HRB.out
        try simp at hr
        subst hr
        exact ⟨rfl, bel_alloc L.out (by rw [sz]; omega)⟩
      cases b
      · as_aux_lemma =>
        go_upto_region 14 with (fail)
        obtain ⟨g4, -⟩ := new_block W3 (.cells #[.int .i64 ver, .int .i64 writer, .int .i64 flow] 34)
        refine wp_region_lit ?_
        refine wpList_run rfl (exec_load_row 38 _ rfl (w.heap.size + 1 + 1) _ _ (.struct (Tryd.prog.fieldsOf 38)) (by kernel_rfl) (stays KP.out g4) (by kernel_rfl) rfl (by kernel_rfl)) ?_
        refine wpList_run rfl (exec_load_row 38 _ rfl (w.heap.size) _ _ (.struct (Tryd.prog.fieldsOf 38)) (by kernel_rfl) (stays KX.out g4) (by kernel_rfl) rfl (by kernel_rfl)) ?_
        refine wpList_run rfl (exec_eql_agg 38 _ _ _ rfl _ _ _ (by kernel_rfl) (by kernel_rfl) (by kernel_rfl) (heq _)) ?_
        clear g4
        go_wp2_with (fail)
        go_ret
        have hr := HRB.out
        try simp at hr
        subst hr
        exact ⟨rfl, bel_alloc L.out (by rw [sz]; omega)⟩
      · as_aux_lemma =>
        have hz := HB.out
        simp [eqBb] at hz
        obtain ⟨rfl, rfl, rfl, rfl, rfl, rfl, rfl, rfl, rfl, rfl, rfl, rfl, rfl⟩ := hz
        have hfl := fun W => flow_any 0 W
        rw [show flowB 0 = true from rfl] at hfl
        have he0 : ∀ W, Calls Tryd.prog 40 #[.agg #[.bool false, .int .i64 0, .int .i64 0, .int .i64 0]] W fun e w' => e = .returned (.bool true) ∧ Below W.heap.size W w' := fun W => ext_any zeroX W
        go_upto_region 14 with (first | (with_reducible refine (hfl _).mono ?_; rintro e w' ⟨rfl, rfl⟩))
        obtain ⟨g4, -⟩ := new_block W3 (.cells #[.int .i64 0, .int .i64 0, .int .i64 0] 34)
        refine wp_region_lit ?_
        refine wpList_run rfl (exec_load_row 38 _ rfl (w.heap.size + 1 + 1) _ _ (.struct (Tryd.prog.fieldsOf 38)) (by kernel_rfl) (stays KP.out g4) (by kernel_rfl) rfl (by kernel_rfl)) ?_
        refine wpList_run rfl (exec_load_row 38 _ rfl (w.heap.size) _ _ (.struct (Tryd.prog.fieldsOf 38)) (by kernel_rfl) (stays KX.out g4) (by kernel_rfl) rfl (by kernel_rfl)) ?_
        refine wpList_run rfl (exec_eql_agg 38 _ _ _ rfl _ _ _ (by kernel_rfl) (by kernel_rfl) (by kernel_rfl) (heq _)) ?_
        clear g4
        go_wp2_with (first | (with_reducible refine (hfl _).mono ?_; rintro e w' ⟨rfl, rfl⟩))
        with_reducible refine (he0 _).mono ?_
        rintro e w5 ⟨rfl, hB⟩
        obtain ⟨g4, -⟩ := new_block W3 (.cells #[.int .i64 0, .int .i64 0, .int .i64 0] 34)
        have KX5 := stays (stays KX.out g4) hB
        have L4 : Below w.heap.size w (W3.alloc (.cells #[.int .i64 0, .int .i64 0, .int .i64 0] 34)) := bel_alloc L.out (by rw [sz]; omega)
        have L5 := Lib.hid (L4.trans (hB.mono L4.size))
        have e15 := cell_of_row _ _ 15 _ _ _ KX5
        have e16 := cell_of_row _ _ 16 _ _ _ KX5
        have e17 := cell_of_row _ _ 17 _ _ _ KX5
        have e18 := cell_of_row _ _ 18 _ _ _ KX5
        clear KX5 g4 hB L4
        go_wp2_with (fail)
        with_reducible refine (he0 _).mono ?_
        rintro e w6 ⟨rfl, hB⟩
        have L6 := Lib.hid (L5.out.trans (hB.mono L5.out.size))
        clear hB
        go_wp2
        go_ret
        have hr := HRB.out
        try simp at hr
        subst hr
        exact ⟨rfl, L6.out⟩
    · as_aux_lemma =>
      go_wp2
      refine wp_flow_inv2 (by kernel_rfl) (by kernel_rfl) 12 9 (by kernel_rfl) (fun j => ([0, 1, 2, 3, 4, 5, 6, 8, 10] : List Nat).getD j 0) (fun j => 42 + j) (by kernel_rfl) (by kernel_rfl) (by kernel_rfl) (by kernel_rfl) (by kernel_rfl) (by kernel_rfl) (by kernel_rfl) (fun j zv => ([(fun zv => zv = (.pointer (some ⟨w.heap.size, 6, none⟩))), (fun zv => zv = (.agg #[.int .i64 ver, .int .i64 writer, .int .i64 flow])), (fun zv => zv = (.pointer (some ⟨w.heap.size, 9, none⟩))), (fun zv => zv = (.bool hasRest)), (fun zv => zv = (.pointer (some ⟨w.heap.size, 10, none⟩))), (fun zv => zv = (.int .i64 rest)), (fun zv => zv = (.pointer (some ⟨w.heap.size + 1 + 1, 6, none⟩))), (fun zv => zv = (.pointer (some ⟨w.heap.size + 1 + 1, 9, none⟩))), (fun zv => zv = (.pointer (some ⟨w.heap.size + 1 + 1, 10, none⟩)))] : List (Value → Prop)).getD j (fun _ => True) zv)
        (fun d _ W => J5 w nm epoch maker true kind scale ver writer flow hasRest rest m1 m2 m3 m4 x1 x2 x3 x4 (d 7) (d 9) (d 11) W) ?h0 ?step ?fin
      case h0 => exact fun _ => J5.start L.out KX.out KC.out KP.out sz
      case step =>
        intro i o a W d vs hi ho hdi hJ hf hr hF
        replace hi : i < 12 := hi
        rcases (show i = 0 ∨ i = 1 ∨ i = 2 ∨ i = 3 ∨ i = 4 ∨ i = 5 ∨ i = 6 ∨ i = 7 ∨ i = 8 ∨ i = 9 ∨ i = 10 ∨ i = 11 by omega) with rfl | rfl | rfl | rfl | rfl | rfl | rfl | rfl | rfl | rfl | rfl | rfl
        · replace ho := op_at ho (by rfl)
          subst ho
          have f1 : a.tmps.getD 1 undef = (.pointer (some ⟨w.heap.size, 0, none⟩)) := hf 1 (by kernel_rfl)
          exact .inl ⟨0, by decide, rfl, (.pointer (some ⟨w.heap.size, 6, none⟩)), W, (by simp [go_sem, Act.eval, f1]), rfl, hJ⟩
        · replace ho := op_at ho (by rfl)
          subst ho
          have d0 : a.tmps.getD 42 undef = (.pointer (some ⟨w.heap.size, 6, none⟩)) := by
            have h1 := hF 0 (by decide) (hr 0 (by kernel_rfl))
            exact h1.2.trans h1.1
          have c6 := cell_of_row _ _ 6 _ _ _ hJ.x
          have c7 := cell_of_row _ _ 7 _ _ _ hJ.x
          have c8 := cell_of_row _ _ 8 _ _ _ hJ.x
          exact .inl ⟨1, by decide, rfl, (.agg #[.int .i64 ver, .int .i64 writer, .int .i64 flow]), W, (by simp [go_sem, Act.eval, d0, c6, c7, c8]), rfl, hJ⟩
        · replace ho := op_at ho (by rfl)
          subst ho
          have f1 : a.tmps.getD 1 undef = (.pointer (some ⟨w.heap.size, 0, none⟩)) := hf 1 (by kernel_rfl)
          exact .inl ⟨2, by decide, rfl, (.pointer (some ⟨w.heap.size, 9, none⟩)), W, (by simp [go_sem, Act.eval, f1]), rfl, hJ⟩
        · replace ho := op_at ho (by rfl)
          subst ho
          have d2 : a.tmps.getD 44 undef = (.pointer (some ⟨w.heap.size, 9, none⟩)) := by
            have h1 := hF 2 (by decide) (hr 2 (by kernel_rfl))
            exact h1.2.trans h1.1
          have c9 := cell_of_row _ _ 9 _ _ _ hJ.x
          exact .inl ⟨3, by decide, rfl, (.bool hasRest), W, (by simp [go_sem, Act.eval, d2, c9]), rfl, hJ⟩
        · replace ho := op_at ho (by rfl)
          subst ho
          have f1 : a.tmps.getD 1 undef = (.pointer (some ⟨w.heap.size, 0, none⟩)) := hf 1 (by kernel_rfl)
          exact .inl ⟨4, by decide, rfl, (.pointer (some ⟨w.heap.size, 10, none⟩)), W, (by simp [go_sem, Act.eval, f1]), rfl, hJ⟩
        · replace ho := op_at ho (by rfl)
          subst ho
          have d4 : a.tmps.getD 46 undef = (.pointer (some ⟨w.heap.size, 10, none⟩)) := by
            have h1 := hF 4 (by decide) (hr 4 (by kernel_rfl))
            exact h1.2.trans h1.1
          have c10 := cell_of_row _ _ 10 _ _ _ hJ.x
          exact .inl ⟨5, by decide, rfl, (.int .i64 rest), W, (by simp [go_sem, Act.eval, d4, c10]), rfl, hJ⟩
        · replace ho := op_at ho (by rfl)
          subst ho
          have f4 : a.tmps.getD 4 undef = (.pointer (some ⟨w.heap.size + 1 + 1, 0, none⟩)) := hf 4 (by kernel_rfl)
          exact .inl ⟨6, by decide, rfl, (.pointer (some ⟨w.heap.size + 1 + 1, 6, none⟩)), W, (by simp [go_sem, Act.eval, f4]), rfl, hJ⟩
        · replace ho := op_at ho (by rfl)
          subst ho
          have d6 : a.tmps.getD 48 undef = (.pointer (some ⟨w.heap.size + 1 + 1, 6, none⟩)) := by
            have h1 := hF 6 (by decide) (hr 6 (by kernel_rfl))
            exact h1.2.trans h1.1
          have d1 : a.tmps.getD 43 undef = (.agg #[.int .i64 ver, .int .i64 writer, .int .i64 flow]) := by
            have h1 := hF 1 (by decide) (hr 1 (by kernel_rfl))
            exact h1.2.trans h1.1
          rw [hdi] at hJ
          exact .inr ⟨rfl, _, exec_store _ _ _ rfl _ _ d6 d1 (run_store_row (P := Tryd.prog) W (w.heap.size + 1 + 1) 6 _ _ 34 #[.int .i64 ver, .int .i64 writer, .int .i64 flow] hJ.p (by cases d 9 <;> cases d 11 <;> simp [J5.cells]) (by kernel_rfl) (by simp [Value.oneCell'])), hJ.reg⟩
        · replace ho := op_at ho (by rfl)
          subst ho
          have f4 : a.tmps.getD 4 undef = (.pointer (some ⟨w.heap.size + 1 + 1, 0, none⟩)) := hf 4 (by kernel_rfl)
          exact .inl ⟨7, by decide, rfl, (.pointer (some ⟨w.heap.size + 1 + 1, 9, none⟩)), W, (by simp [go_sem, Act.eval, f4]), rfl, hJ⟩
        · replace ho := op_at ho (by rfl)
          subst ho
          have d8 : a.tmps.getD 49 undef = (.pointer (some ⟨w.heap.size + 1 + 1, 9, none⟩)) := by
            have h1 := hF 7 (by decide) (hr 8 (by kernel_rfl))
            exact h1.2.trans h1.1
          have d3 : a.tmps.getD 45 undef = (.bool hasRest) := by
            have h1 := hF 3 (by decide) (hr 3 (by kernel_rfl))
            exact h1.2.trans h1.1
          rw [hdi] at hJ
          have q0 := hJ.c9
          have q1 := frozen_of_row _ _ 9 _ _ hJ.p
          exact .inr ⟨rfl, W.setCell ⟨w.heap.size + 1 + 1, 9, none⟩ (.bool hasRest), by simp [go_sem, Act.eval, d8, d3, q0, q1], hJ.has⟩
        · replace ho := op_at ho (by rfl)
          subst ho
          have f4 : a.tmps.getD 4 undef = (.pointer (some ⟨w.heap.size + 1 + 1, 0, none⟩)) := hf 4 (by kernel_rfl)
          exact .inl ⟨8, by decide, rfl, (.pointer (some ⟨w.heap.size + 1 + 1, 10, none⟩)), W, (by simp [go_sem, Act.eval, f4]), rfl, hJ⟩
        · replace ho := op_at ho (by rfl)
          subst ho
          have d10 : a.tmps.getD 50 undef = (.pointer (some ⟨w.heap.size + 1 + 1, 10, none⟩)) := by
            have h1 := hF 8 (by decide) (hr 10 (by kernel_rfl))
            exact h1.2.trans h1.1
          have d5 : a.tmps.getD 47 undef = (.int .i64 rest) := by
            have h1 := hF 5 (by decide) (hr 5 (by kernel_rfl))
            exact h1.2.trans h1.1
          rw [hdi] at hJ
          have q0 := hJ.c10
          have q1 := frozen_of_row _ _ 10 _ _ hJ.p
          exact .inr ⟨rfl, W.setCell ⟨w.heap.size + 1 + 1, 10, none⟩ (.int .i64 rest), by simp [go_sem, Act.eval, d10, d5, q0, q1], hJ.res⟩
      case fin =>
        intro d vs W4 hall hJ hF
        rw [hall 7 (by decide), hall 9 (by decide), hall 11 (by decide)] at hJ
        have h0 : vs 0 = (.pointer (some ⟨w.heap.size, 6, none⟩)) := hF 0 (by decide)
        have h1 : vs 1 = (.agg #[.int .i64 ver, .int .i64 writer, .int .i64 flow]) := hF 1 (by decide)
        have h2 : vs 2 = (.pointer (some ⟨w.heap.size, 9, none⟩)) := hF 2 (by decide)
        have h3 : vs 3 = (.bool hasRest) := hF 3 (by decide)
        have h4 : vs 4 = (.pointer (some ⟨w.heap.size, 10, none⟩)) := hF 4 (by decide)
        have h5 : vs 5 = (.int .i64 rest) := hF 5 (by decide)
        have h6 : vs 6 = (.pointer (some ⟨w.heap.size + 1 + 1, 6, none⟩)) := hF 6 (by decide)
        have h7 : vs 7 = (.pointer (some ⟨w.heap.size + 1 + 1, 9, none⟩)) := hF 7 (by decide)
        have h8 : vs 8 = (.pointer (some ⟨w.heap.size + 1 + 1, 10, none⟩)) := hF 8 (by decide)
        clear hall hF
        show (_ : Exit → Act → World → Prop) Exit.normal (puts _ vs 9 _) W4
        simp only [puts, h0, h1, h2, h3, h4, h5, h6, h7, h8]
        clear h0 h1 h2 h3 h4 h5 h6 h7 h8 L KX KC KP sz c3 c4 c5
        go_simp
        have L := Lib.hid hJ.low
        have KX := Lib.hid hJ.x
        have KC := Lib.hid hJ.c
        have KP := Lib.hid hJ.p
        have sz := hJ.sz
        clear hJ
        have HRB : Hid (R = (((ver == 0 && writer == 0 && flow == 0) || (inB ver 1 1099511627776 && (nodeB writer && flowB flow))) && (flowB rest && ((hasRest || rest == 0) && eqDb m1 m2 m3 m4 x1 x2 x3 x4)))) := by show _ = _; rw [HR.out]; exact restB_flow ⟨name, epoch, maker, true, kind, scale, ver, writer, flow, hasRest, rest, ⟨m1, m2, m3, m4⟩, ⟨x1, x2, x3, x4⟩⟩ rfl HK.out
        have d6 := cell_of_row _ _ 6 _ _ _ KX.out
        have d7 := cell_of_row _ _ 7 _ _ _ KX.out
        have d8 := cell_of_row _ _ 8 _ _ _ KX.out
        have d9 := cell_of_row _ _ 9 _ _ _ KX.out
        have d10 := cell_of_row _ _ 10 _ _ _ KX.out
        have d11 := cell_of_row _ _ 11 _ _ _ KX.out
        have d12 := cell_of_row _ _ 12 _ _ _ KX.out
        have d13 := cell_of_row _ _ 13 _ _ _ KX.out
        have d14 := cell_of_row _ _ 14 _ _ _ KX.out
        have d15 := cell_of_row _ _ 15 _ _ _ KX.out
        have d16 := cell_of_row _ _ 16 _ _ _ KX.out
        have d17 := cell_of_row _ _ 17 _ _ _ KX.out
        have d18 := cell_of_row _ _ 18 _ _ _ KX.out
        have hne := fun W => ne_R ver writer flow W
        have heq := fun W => eq_D nm epoch maker true kind scale ver writer flow hasRest rest m1 m2 m3 m4 x1 x2 x3 x4 W
        have HB0 : Hid (∃ b, b = eqDb m1 m2 m3 m4 x1 x2 x3 x4) := ⟨_, rfl⟩
        obtain ⟨b, hb⟩ := HB0.out
        rw [← hb] at heq
        have HB := Lib.hid hb
        obtain ⟨rz, hrz⟩ : ∃ r, r = (ver == 0 && writer == 0 && flow == 0) := ⟨_, rfl⟩
        rw [← hrz] at hne
        have HRZ := Lib.hid hrz
        clear hrz hb HB0
        rw [← HB.out, ← HRZ.out] at HRB
        have hfr := fun W => flow_any rest W
        generalize flowB rest = fr at *
        obtain ⟨r0, hr0⟩ : ∃ r, r = (rest == 0) := ⟨_, rfl⟩
        rw [← hr0] at HRB
        replace hr0 := hr0.symm
        cases rz
        · have hv := fun W => within_any ver 1 1099511627776 W
          have hnw := fun W => node_any writer W
          have hfl := fun W => flow_any flow W
          generalize inB ver 1 1099511627776 = bv at *
          generalize nodeB writer = bw at *
          generalize flowB flow = bf at *
          cases bv
          · clear hnw hfl
            as_aux_lemma =>
            go_wp2_with (first | (with_reducible refine (hv _).mono ?_; rintro e w' ⟨rfl, rfl⟩))
            go_ret
            have hr := HRB.out
            try simp at hr
            subst hr
            exact ⟨rfl, bel_alloc L.out (by rw [sz]; omega)⟩
          cases bw
          · clear hfl
            as_aux_lemma =>
            go_wp2_with (first | (with_reducible refine (hv _).mono ?_; rintro e w' ⟨rfl, rfl⟩) | (with_reducible refine (hnw _).mono ?_; rintro e w' ⟨rfl, rfl⟩))
            go_ret
            have hr := HRB.out
            try simp at hr
            subst hr
            exact ⟨rfl, bel_alloc L.out (by rw [sz]; omega)⟩
          cases bf
          · as_aux_lemma =>
            go_wp2_with (first | (with_reducible refine (hv _).mono ?_; rintro e w' ⟨rfl, rfl⟩) | (with_reducible refine (hnw _).mono ?_; rintro e w' ⟨rfl, rfl⟩) | (with_reducible refine (hfl _).mono ?_; rintro e w' ⟨rfl, rfl⟩))
            go_ret
            have hr := HRB.out
            try simp at hr
            subst hr
            exact ⟨rfl, bel_alloc L.out (by rw [sz]; omega)⟩
          cases b
          · as_aux_lemma =>
            go_upto_region 14 with (first | (with_reducible refine (hv _).mono ?_; rintro e w' ⟨rfl, rfl⟩) | (with_reducible refine (hnw _).mono ?_; rintro e w' ⟨rfl, rfl⟩) | (with_reducible refine (hfl _).mono ?_; rintro e w' ⟨rfl, rfl⟩))
            obtain ⟨g4, -⟩ := new_block W4 (.cells #[.int .i64 ver, .int .i64 writer, .int .i64 flow] 34)
            refine wp_region_lit ?_
            refine wpList_run rfl (exec_load_row 38 _ rfl (w.heap.size + 1 + 1) _ _ (.struct (Tryd.prog.fieldsOf 38)) (by kernel_rfl) (stays KP.out g4) (by kernel_rfl) rfl (by kernel_rfl)) ?_
            refine wpList_run rfl (exec_load_row 38 _ rfl (w.heap.size) _ _ (.struct (Tryd.prog.fieldsOf 38)) (by kernel_rfl) (stays KX.out g4) (by kernel_rfl) rfl (by kernel_rfl)) ?_
            refine wpList_run rfl (exec_eql_agg 38 _ _ _ rfl _ _ _ (by kernel_rfl) (by kernel_rfl) (by kernel_rfl) (heq _)) ?_
            clear g4
            go_wp2_with (first | (with_reducible refine (hv _).mono ?_; rintro e w' ⟨rfl, rfl⟩) | (with_reducible refine (hnw _).mono ?_; rintro e w' ⟨rfl, rfl⟩) | (with_reducible refine (hfl _).mono ?_; rintro e w' ⟨rfl, rfl⟩))
            go_ret
            have hr := HRB.out
            try simp at hr
            subst hr
            exact ⟨rfl, bel_alloc L.out (by rw [sz]; omega)⟩
          · as_aux_lemma =>
            have hz := HB.out
            simp [eqDb] at hz
            obtain ⟨rfl, rfl, rfl, rfl, rfl, rfl, rfl, rfl⟩ := hz
            have he0 : ∀ W, Calls Tryd.prog 40 #[.agg #[.bool false, .int .i64 0, .int .i64 0, .int .i64 0]] W fun e w' => e = .returned (.bool true) ∧ Below W.heap.size W w' := fun W => ext_any zeroX W
            cases fr
            · as_aux_lemma =>
              go_upto_region 14 with (first | (with_reducible refine (hv _).mono ?_; rintro e w' ⟨rfl, rfl⟩) | (with_reducible refine (hnw _).mono ?_; rintro e w' ⟨rfl, rfl⟩) | (with_reducible refine (hfl _).mono ?_; rintro e w' ⟨rfl, rfl⟩) | (with_reducible refine (hfr _).mono ?_; rintro e w' ⟨rfl, rfl⟩))
              obtain ⟨g4, -⟩ := new_block W4 (.cells #[.int .i64 ver, .int .i64 writer, .int .i64 flow] 34)
              refine wp_region_lit ?_
              refine wpList_run rfl (exec_load_row 38 _ rfl (w.heap.size + 1 + 1) _ _ (.struct (Tryd.prog.fieldsOf 38)) (by kernel_rfl) (stays KP.out g4) (by kernel_rfl) rfl (by kernel_rfl)) ?_
              refine wpList_run rfl (exec_load_row 38 _ rfl (w.heap.size) _ _ (.struct (Tryd.prog.fieldsOf 38)) (by kernel_rfl) (stays KX.out g4) (by kernel_rfl) rfl (by kernel_rfl)) ?_
              refine wpList_run rfl (exec_eql_agg 38 _ _ _ rfl _ _ _ (by kernel_rfl) (by kernel_rfl) (by kernel_rfl) (heq _)) ?_
              clear g4
              go_wp2_with (first | (with_reducible refine (hv _).mono ?_; rintro e w' ⟨rfl, rfl⟩) | (with_reducible refine (hnw _).mono ?_; rintro e w' ⟨rfl, rfl⟩) | (with_reducible refine (hfl _).mono ?_; rintro e w' ⟨rfl, rfl⟩) | (with_reducible refine (hfr _).mono ?_; rintro e w' ⟨rfl, rfl⟩))
              go_ret
              have hr := HRB.out
              try simp at hr
              subst hr
              exact ⟨rfl, bel_alloc L.out (by rw [sz]; omega)⟩
            cases hasRest
            · cases r0
              · as_aux_lemma =>
                go_upto_region 14 with (first | (with_reducible refine (hv _).mono ?_; rintro e w' ⟨rfl, rfl⟩) | (with_reducible refine (hnw _).mono ?_; rintro e w' ⟨rfl, rfl⟩) | (with_reducible refine (hfl _).mono ?_; rintro e w' ⟨rfl, rfl⟩) | (with_reducible refine (hfr _).mono ?_; rintro e w' ⟨rfl, rfl⟩))
                obtain ⟨g4, -⟩ := new_block W4 (.cells #[.int .i64 ver, .int .i64 writer, .int .i64 flow] 34)
                refine wp_region_lit ?_
                refine wpList_run rfl (exec_load_row 38 _ rfl (w.heap.size + 1 + 1) _ _ (.struct (Tryd.prog.fieldsOf 38)) (by kernel_rfl) (stays KP.out g4) (by kernel_rfl) rfl (by kernel_rfl)) ?_
                refine wpList_run rfl (exec_load_row 38 _ rfl (w.heap.size) _ _ (.struct (Tryd.prog.fieldsOf 38)) (by kernel_rfl) (stays KX.out g4) (by kernel_rfl) rfl (by kernel_rfl)) ?_
                refine wpList_run rfl (exec_eql_agg 38 _ _ _ rfl _ _ _ (by kernel_rfl) (by kernel_rfl) (by kernel_rfl) (heq _)) ?_
                clear g4
                go_wp2_with (first | (with_reducible refine (hv _).mono ?_; rintro e w' ⟨rfl, rfl⟩) | (with_reducible refine (hnw _).mono ?_; rintro e w' ⟨rfl, rfl⟩) | (with_reducible refine (hfl _).mono ?_; rintro e w' ⟨rfl, rfl⟩) | (with_reducible refine (hfr _).mono ?_; rintro e w' ⟨rfl, rfl⟩))
                go_ret
                have hr := HRB.out
                try simp at hr
                subst hr
                exact ⟨rfl, bel_alloc L.out (by rw [sz]; omega)⟩
              · as_aux_lemma =>
                go_upto_region 14 with (first | (with_reducible refine (hv _).mono ?_; rintro e w' ⟨rfl, rfl⟩) | (with_reducible refine (hnw _).mono ?_; rintro e w' ⟨rfl, rfl⟩) | (with_reducible refine (hfl _).mono ?_; rintro e w' ⟨rfl, rfl⟩) | (with_reducible refine (hfr _).mono ?_; rintro e w' ⟨rfl, rfl⟩))
                obtain ⟨g4, -⟩ := new_block W4 (.cells #[.int .i64 ver, .int .i64 writer, .int .i64 flow] 34)
                refine wp_region_lit ?_
                refine wpList_run rfl (exec_load_row 38 _ rfl (w.heap.size + 1 + 1) _ _ (.struct (Tryd.prog.fieldsOf 38)) (by kernel_rfl) (stays KP.out g4) (by kernel_rfl) rfl (by kernel_rfl)) ?_
                refine wpList_run rfl (exec_load_row 38 _ rfl (w.heap.size) _ _ (.struct (Tryd.prog.fieldsOf 38)) (by kernel_rfl) (stays KX.out g4) (by kernel_rfl) rfl (by kernel_rfl)) ?_
                refine wpList_run rfl (exec_eql_agg 38 _ _ _ rfl _ _ _ (by kernel_rfl) (by kernel_rfl) (by kernel_rfl) (heq _)) ?_
                clear g4
                go_wp2_with (first | (with_reducible refine (hv _).mono ?_; rintro e w' ⟨rfl, rfl⟩) | (with_reducible refine (hnw _).mono ?_; rintro e w' ⟨rfl, rfl⟩) | (with_reducible refine (hfl _).mono ?_; rintro e w' ⟨rfl, rfl⟩) | (with_reducible refine (hfr _).mono ?_; rintro e w' ⟨rfl, rfl⟩))
                with_reducible refine (he0 _).mono ?_
                rintro e w5 ⟨rfl, hB⟩
                obtain ⟨g4, -⟩ := new_block W4 (.cells #[.int .i64 ver, .int .i64 writer, .int .i64 flow] 34)
                have KX5 := stays (stays KX.out g4) hB
                have L4 : Below w.heap.size w (W4.alloc (.cells #[.int .i64 ver, .int .i64 writer, .int .i64 flow] 34)) := bel_alloc L.out (by rw [sz]; omega)
                have L5 := Lib.hid (L4.trans (hB.mono L4.size))
                have e15 := cell_of_row _ _ 15 _ _ _ KX5
                have e16 := cell_of_row _ _ 16 _ _ _ KX5
                have e17 := cell_of_row _ _ 17 _ _ _ KX5
                have e18 := cell_of_row _ _ 18 _ _ _ KX5
                clear KX5 g4 hB L4
                go_wp2_with (fail)
                with_reducible refine (he0 _).mono ?_
                rintro e w6 ⟨rfl, hB⟩
                have L6 := Lib.hid (L5.out.trans (hB.mono L5.out.size))
                clear hB
                go_wp2
                go_ret
                have hr := HRB.out
                try simp at hr
                subst hr
                exact ⟨rfl, L6.out⟩
            · as_aux_lemma =>
              go_upto_region 14 with (first | (with_reducible refine (hv _).mono ?_; rintro e w' ⟨rfl, rfl⟩) | (with_reducible refine (hnw _).mono ?_; rintro e w' ⟨rfl, rfl⟩) | (with_reducible refine (hfl _).mono ?_; rintro e w' ⟨rfl, rfl⟩) | (with_reducible refine (hfr _).mono ?_; rintro e w' ⟨rfl, rfl⟩))
              obtain ⟨g4, -⟩ := new_block W4 (.cells #[.int .i64 ver, .int .i64 writer, .int .i64 flow] 34)
              refine wp_region_lit ?_
              refine wpList_run rfl (exec_load_row 38 _ rfl (w.heap.size + 1 + 1) _ _ (.struct (Tryd.prog.fieldsOf 38)) (by kernel_rfl) (stays KP.out g4) (by kernel_rfl) rfl (by kernel_rfl)) ?_
              refine wpList_run rfl (exec_load_row 38 _ rfl (w.heap.size) _ _ (.struct (Tryd.prog.fieldsOf 38)) (by kernel_rfl) (stays KX.out g4) (by kernel_rfl) rfl (by kernel_rfl)) ?_
              refine wpList_run rfl (exec_eql_agg 38 _ _ _ rfl _ _ _ (by kernel_rfl) (by kernel_rfl) (by kernel_rfl) (heq _)) ?_
              clear g4
              go_wp2_with (first | (with_reducible refine (hv _).mono ?_; rintro e w' ⟨rfl, rfl⟩) | (with_reducible refine (hnw _).mono ?_; rintro e w' ⟨rfl, rfl⟩) | (with_reducible refine (hfl _).mono ?_; rintro e w' ⟨rfl, rfl⟩) | (with_reducible refine (hfr _).mono ?_; rintro e w' ⟨rfl, rfl⟩))
              with_reducible refine (he0 _).mono ?_
              rintro e w5 ⟨rfl, hB⟩
              obtain ⟨g4, -⟩ := new_block W4 (.cells #[.int .i64 ver, .int .i64 writer, .int .i64 flow] 34)
              have KX5 := stays (stays KX.out g4) hB
              have L4 : Below w.heap.size w (W4.alloc (.cells #[.int .i64 ver, .int .i64 writer, .int .i64 flow] 34)) := bel_alloc L.out (by rw [sz]; omega)
              have L5 := Lib.hid (L4.trans (hB.mono L4.size))
              have e15 := cell_of_row _ _ 15 _ _ _ KX5
              have e16 := cell_of_row _ _ 16 _ _ _ KX5
              have e17 := cell_of_row _ _ 17 _ _ _ KX5
              have e18 := cell_of_row _ _ 18 _ _ _ KX5
              clear KX5 g4 hB L4
              go_wp2_with (fail)
              with_reducible refine (he0 _).mono ?_
              rintro e w6 ⟨rfl, hB⟩
              have L6 := Lib.hid (L5.out.trans (hB.mono L5.out.size))
              clear hB
              go_wp2
              go_ret
              have hr := HRB.out
              try simp at hr
              subst hr
              exact ⟨rfl, L6.out⟩
        · cases b
          · as_aux_lemma =>
            go_upto_region 14 with (fail)
            obtain ⟨g4, -⟩ := new_block W4 (.cells #[.int .i64 ver, .int .i64 writer, .int .i64 flow] 34)
            refine wp_region_lit ?_
            refine wpList_run rfl (exec_load_row 38 _ rfl (w.heap.size + 1 + 1) _ _ (.struct (Tryd.prog.fieldsOf 38)) (by kernel_rfl) (stays KP.out g4) (by kernel_rfl) rfl (by kernel_rfl)) ?_
            refine wpList_run rfl (exec_load_row 38 _ rfl (w.heap.size) _ _ (.struct (Tryd.prog.fieldsOf 38)) (by kernel_rfl) (stays KX.out g4) (by kernel_rfl) rfl (by kernel_rfl)) ?_
            refine wpList_run rfl (exec_eql_agg 38 _ _ _ rfl _ _ _ (by kernel_rfl) (by kernel_rfl) (by kernel_rfl) (heq _)) ?_
            clear g4
            go_wp2_with (fail)
            go_ret
            have hr := HRB.out
            try simp at hr
            subst hr
            exact ⟨rfl, bel_alloc L.out (by rw [sz]; omega)⟩
          · as_aux_lemma =>
            have hz := HB.out
            simp [eqDb] at hz
            obtain ⟨rfl, rfl, rfl, rfl, rfl, rfl, rfl, rfl⟩ := hz
            have he0 : ∀ W, Calls Tryd.prog 40 #[.agg #[.bool false, .int .i64 0, .int .i64 0, .int .i64 0]] W fun e w' => e = .returned (.bool true) ∧ Below W.heap.size W w' := fun W => ext_any zeroX W
            cases fr
            · as_aux_lemma =>
              go_upto_region 14 with (first | (with_reducible refine (hfr _).mono ?_; rintro e w' ⟨rfl, rfl⟩))
              obtain ⟨g4, -⟩ := new_block W4 (.cells #[.int .i64 ver, .int .i64 writer, .int .i64 flow] 34)
              refine wp_region_lit ?_
              refine wpList_run rfl (exec_load_row 38 _ rfl (w.heap.size + 1 + 1) _ _ (.struct (Tryd.prog.fieldsOf 38)) (by kernel_rfl) (stays KP.out g4) (by kernel_rfl) rfl (by kernel_rfl)) ?_
              refine wpList_run rfl (exec_load_row 38 _ rfl (w.heap.size) _ _ (.struct (Tryd.prog.fieldsOf 38)) (by kernel_rfl) (stays KX.out g4) (by kernel_rfl) rfl (by kernel_rfl)) ?_
              refine wpList_run rfl (exec_eql_agg 38 _ _ _ rfl _ _ _ (by kernel_rfl) (by kernel_rfl) (by kernel_rfl) (heq _)) ?_
              clear g4
              go_wp2_with (first | (with_reducible refine (hfr _).mono ?_; rintro e w' ⟨rfl, rfl⟩))
              go_ret
              have hr := HRB.out
              try simp at hr
              subst hr
              exact ⟨rfl, bel_alloc L.out (by rw [sz]; omega)⟩
            cases hasRest
            · cases r0
              · as_aux_lemma =>
                go_upto_region 14 with (first | (with_reducible refine (hfr _).mono ?_; rintro e w' ⟨rfl, rfl⟩))
                obtain ⟨g4, -⟩ := new_block W4 (.cells #[.int .i64 ver, .int .i64 writer, .int .i64 flow] 34)
                refine wp_region_lit ?_
                refine wpList_run rfl (exec_load_row 38 _ rfl (w.heap.size + 1 + 1) _ _ (.struct (Tryd.prog.fieldsOf 38)) (by kernel_rfl) (stays KP.out g4) (by kernel_rfl) rfl (by kernel_rfl)) ?_
                refine wpList_run rfl (exec_load_row 38 _ rfl (w.heap.size) _ _ (.struct (Tryd.prog.fieldsOf 38)) (by kernel_rfl) (stays KX.out g4) (by kernel_rfl) rfl (by kernel_rfl)) ?_
                refine wpList_run rfl (exec_eql_agg 38 _ _ _ rfl _ _ _ (by kernel_rfl) (by kernel_rfl) (by kernel_rfl) (heq _)) ?_
                clear g4
                go_wp2_with (first | (with_reducible refine (hfr _).mono ?_; rintro e w' ⟨rfl, rfl⟩))
                go_ret
                have hr := HRB.out
                try simp at hr
                subst hr
                exact ⟨rfl, bel_alloc L.out (by rw [sz]; omega)⟩
              · as_aux_lemma =>
                go_upto_region 14 with (first | (with_reducible refine (hfr _).mono ?_; rintro e w' ⟨rfl, rfl⟩))
                obtain ⟨g4, -⟩ := new_block W4 (.cells #[.int .i64 ver, .int .i64 writer, .int .i64 flow] 34)
                refine wp_region_lit ?_
                refine wpList_run rfl (exec_load_row 38 _ rfl (w.heap.size + 1 + 1) _ _ (.struct (Tryd.prog.fieldsOf 38)) (by kernel_rfl) (stays KP.out g4) (by kernel_rfl) rfl (by kernel_rfl)) ?_
                refine wpList_run rfl (exec_load_row 38 _ rfl (w.heap.size) _ _ (.struct (Tryd.prog.fieldsOf 38)) (by kernel_rfl) (stays KX.out g4) (by kernel_rfl) rfl (by kernel_rfl)) ?_
                refine wpList_run rfl (exec_eql_agg 38 _ _ _ rfl _ _ _ (by kernel_rfl) (by kernel_rfl) (by kernel_rfl) (heq _)) ?_
                clear g4
                go_wp2_with (first | (with_reducible refine (hfr _).mono ?_; rintro e w' ⟨rfl, rfl⟩))
                with_reducible refine (he0 _).mono ?_
                rintro e w5 ⟨rfl, hB⟩
                obtain ⟨g4, -⟩ := new_block W4 (.cells #[.int .i64 ver, .int .i64 writer, .int .i64 flow] 34)
                have KX5 := stays (stays KX.out g4) hB
                have L4 : Below w.heap.size w (W4.alloc (.cells #[.int .i64 ver, .int .i64 writer, .int .i64 flow] 34)) := bel_alloc L.out (by rw [sz]; omega)
                have L5 := Lib.hid (L4.trans (hB.mono L4.size))
                have e15 := cell_of_row _ _ 15 _ _ _ KX5
                have e16 := cell_of_row _ _ 16 _ _ _ KX5
                have e17 := cell_of_row _ _ 17 _ _ _ KX5
                have e18 := cell_of_row _ _ 18 _ _ _ KX5
                clear KX5 g4 hB L4
                go_wp2_with (fail)
                with_reducible refine (he0 _).mono ?_
                rintro e w6 ⟨rfl, hB⟩
                have L6 := Lib.hid (L5.out.trans (hB.mono L5.out.size))
                clear hB
                go_wp2
                go_ret
                have hr := HRB.out
                try simp at hr
                subst hr
                exact ⟨rfl, L6.out⟩
            · as_aux_lemma =>
              go_upto_region 14 with (first | (with_reducible refine (hfr _).mono ?_; rintro e w' ⟨rfl, rfl⟩))
              obtain ⟨g4, -⟩ := new_block W4 (.cells #[.int .i64 ver, .int .i64 writer, .int .i64 flow] 34)
              refine wp_region_lit ?_
              refine wpList_run rfl (exec_load_row 38 _ rfl (w.heap.size + 1 + 1) _ _ (.struct (Tryd.prog.fieldsOf 38)) (by kernel_rfl) (stays KP.out g4) (by kernel_rfl) rfl (by kernel_rfl)) ?_
              refine wpList_run rfl (exec_load_row 38 _ rfl (w.heap.size) _ _ (.struct (Tryd.prog.fieldsOf 38)) (by kernel_rfl) (stays KX.out g4) (by kernel_rfl) rfl (by kernel_rfl)) ?_
              refine wpList_run rfl (exec_eql_agg 38 _ _ _ rfl _ _ _ (by kernel_rfl) (by kernel_rfl) (by kernel_rfl) (heq _)) ?_
              clear g4
              go_wp2_with (first | (with_reducible refine (hfr _).mono ?_; rintro e w' ⟨rfl, rfl⟩))
              with_reducible refine (he0 _).mono ?_
              rintro e w5 ⟨rfl, hB⟩
              obtain ⟨g4, -⟩ := new_block W4 (.cells #[.int .i64 ver, .int .i64 writer, .int .i64 flow] 34)
              have KX5 := stays (stays KX.out g4) hB
              have L4 : Below w.heap.size w (W4.alloc (.cells #[.int .i64 ver, .int .i64 writer, .int .i64 flow] 34)) := bel_alloc L.out (by rw [sz]; omega)
              have L5 := Lib.hid (L4.trans (hB.mono L4.size))
              have e15 := cell_of_row _ _ 15 _ _ _ KX5
              have e16 := cell_of_row _ _ 16 _ _ _ KX5
              have e17 := cell_of_row _ _ 17 _ _ _ KX5
              have e18 := cell_of_row _ _ 18 _ _ _ KX5
              clear KX5 g4 hB L4
              go_wp2_with (fail)
              with_reducible refine (he0 _).mono ?_
              rintro e w6 ⟨rfl, hB⟩
              have L6 := Lib.hid (L5.out.trans (hB.mono L5.out.size))
              clear hB
              go_wp2
              go_ret
              have hr := HRB.out
              try simp at hr
              subst hr
              exact ⟨rfl, L6.out⟩

end Go.Proofs.YtgnpjenpehfjbaaDoor

