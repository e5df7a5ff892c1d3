/- Wire: an item's places (by program: wip/tools/gen_wire20.py).
Wire: item's iterator (by program: wip/tools/gen_wire21.py). -/
import Derived.Test.YtgnpjenpehfjbaaDoorMH
import Derived.Lib.OwnKind
import Derived.Test.YtgnpjenpehfjbaaDoorMC
set_option linter.unusedSimpArgs false
set_option linter.unusedVariables false
namespace Go.Proofs.YtgnpjenpehfjbaaDoor
open Go.RowKit

abbrev OwnP (w : World) (B : Nat) (v : Value) (ps : List Plc) : Prop := w.ownsRow B 106 5 v ps.length (ps.flatMap Plc.cells)
theorem info_place : (Tryd.prog.info? 106).map (fun i => (i.zero, i.size, i.bytes)) = some (some (.agg #[.int .i64 0, .pointer none, .pointer none, .pointer none, .pointer none]), 5, 40) := by kernel_rfl
def item1P (xb : Nat) : List Plc := [⟨3, 2, xb, 0⟩, ⟨1, 0, xb, 1⟩, ⟨1, 1, xb, 2⟩, ⟨4, 3, xb, 3⟩, ⟨1, 1, xb, 4⟩, ⟨1, 0, xb, 5⟩, ⟨1, 0, xb, 6⟩, ⟨1, 1, xb, 7⟩, ⟨2, 0, xb, 8⟩, ⟨4, 3, xb, 9⟩, ⟨2, 0, xb, 10⟩]
def item1C (xb : Nat) : Array Value := #[.int .i64 3, .pointer none, .pointer none, .pointer (some ⟨xb, 0, none⟩), .pointer none, .int .i64 1, .pointer (some ⟨xb, 1, none⟩), .pointer none, .pointer none, .pointer none, .int .i64 1, .pointer none, .pointer (some ⟨xb, 2, none⟩), .pointer none, .pointer none, .int .i64 4, .pointer none, .pointer none, .pointer none, .pointer (some ⟨xb, 3, none⟩), .int .i64 1, .pointer none, .pointer (some ⟨xb, 4, none⟩), .pointer none, .pointer none, .int .i64 1, .pointer (some ⟨xb, 5, none⟩), .pointer none, .pointer none, .pointer none, .int .i64 1, .pointer (some ⟨xb, 6, none⟩), .pointer none, .pointer none, .pointer none, .int .i64 1, .pointer none, .pointer (some ⟨xb, 7, none⟩), .pointer none, .pointer none, .int .i64 2, .pointer (some ⟨xb, 8, none⟩), .pointer none, .pointer none, .pointer none, .int .i64 4, .pointer none, .pointer none, .pointer none, .pointer (some ⟨xb, 9, none⟩), .int .i64 2, .pointer (some ⟨xb, 10, none⟩), .pointer none, .pointer none, .pointer none]
def extP (xb o : Nat) : List Plc := [⟨4, 3, xb, o⟩, ⟨2, 0, xb, o + 1⟩, ⟨1, 1, xb, o + 2⟩, ⟨1, 0, xb, o + 3⟩]
def extC (xb o : Nat) : Array Value := #[.int .i64 4, .pointer none, .pointer none, .pointer none, .pointer (some ⟨xb, o, none⟩), .int .i64 2, .pointer (some ⟨xb, o + 1, none⟩), .pointer none, .pointer none, .pointer none, .int .i64 1, .pointer none, .pointer (some ⟨xb, o + 2, none⟩), .pointer none, .pointer none, .int .i64 1, .pointer (some ⟨xb, o + 3, none⟩), .pointer none, .pointer none, .pointer none]
def itemP (xb : Nat) : List Plc := item1P xb ++ extP xb 11 ++ extP xb 15
theorem ext_cells (xb o : Nat) : (extP xb o).flatMap Plc.cells = (extC xb o).toList := rfl
theorem plc_cells (p : Plc) : ∀ u ∈ p.cells, u.oneCell' = true := by
  intro u hu
  simp only [Plc.cells, Plc.ptr, List.mem_cons, List.not_mem_nil, or_false] at hu
  rcases hu with rfl | rfl | rfl | rfl | rfl <;> rfl
theorem build_item1 (xb : Nat) (W : World) : (Instr.buildSlice 109 11 #[(0, .agg #[.int .i64 3, .pointer none, .pointer none, .pointer (some ⟨xb, 0, none⟩), .pointer none]), (1, .agg #[.int .i64 1, .pointer (some ⟨xb, 1, none⟩), .pointer none, .pointer none, .pointer none]), (2, .agg #[.int .i64 1, .pointer none, .pointer (some ⟨xb, 2, none⟩), .pointer none, .pointer none]), (3, .agg #[.int .i64 4, .pointer none, .pointer none, .pointer none, .pointer (some ⟨xb, 3, none⟩)]), (4, .agg #[.int .i64 1, .pointer none, .pointer (some ⟨xb, 4, none⟩), .pointer none, .pointer none]), (5, .agg #[.int .i64 1, .pointer (some ⟨xb, 5, none⟩), .pointer none, .pointer none, .pointer none]), (6, .agg #[.int .i64 1, .pointer (some ⟨xb, 6, none⟩), .pointer none, .pointer none, .pointer none]), (7, .agg #[.int .i64 1, .pointer none, .pointer (some ⟨xb, 7, none⟩), .pointer none, .pointer none]), (8, .agg #[.int .i64 2, .pointer (some ⟨xb, 8, none⟩), .pointer none, .pointer none, .pointer none]), (9, .agg #[.int .i64 4, .pointer none, .pointer none, .pointer none, .pointer (some ⟨xb, 9, none⟩)]), (10, .agg #[.int .i64 2, .pointer (some ⟨xb, 10, none⟩), .pointer none, .pointer none, .pointer none])]).run Tryd.prog W = .ok (.slice (some ⟨W.heap.size, 0, none⟩) 11 11) (W.alloc (.cells (item1C xb) 106)) := by kernel_rfl
theorem build_ext (xb o : Nat) (W : World) : (Instr.buildSlice 109 4 #[(0, .agg #[.int .i64 4, .pointer none, .pointer none, .pointer none, .pointer (some ⟨xb, o, none⟩)]), (1, .agg #[.int .i64 2, .pointer (some ⟨xb, o + 1, none⟩), .pointer none, .pointer none, .pointer none]), (2, .agg #[.int .i64 1, .pointer none, .pointer (some ⟨xb, o + 2, none⟩), .pointer none, .pointer none]), (3, .agg #[.int .i64 1, .pointer (some ⟨xb, o + 3, none⟩), .pointer none, .pointer none, .pointer none])]).run Tryd.prog W = .ok (.slice (some ⟨W.heap.size, 0, none⟩) 4 4) (W.alloc (.cells (extC xb o) 106)) := by kernel_rfl
theorem OwnP.below {w w' : World} {B : Nat} {v : Value} {fs : List Plc} (h : OwnP w B v fs) (hb : Below w.heap.size w w') : OwnP w' B v fs :=
  World.ownsRow.kept h (row := none) ⟨hb.os, hb.tape, hb.output, hb.size, fun k hk _ => hb.block k hk⟩ (by
    cases hv : v.ownBlock with
    | none => exact .inl rfl
    | some k => exact .inr (by simp))
/-- a row that was just built is owned -/
theorem owns_built {w W : World} {xb : Nat} {g : Nat} (h : W.heap[g]? = some (.cells (item1C xb) 106 (0, 0))) (hg : w.heap.size ≤ g) : OwnP W w.heap.size (.slice (some ⟨g, 0, none⟩) 11 11) (item1P xb) := by
  have h1 : (item1C xb).toList.length = 55 := rfl
  have : W.ownsRow w.heap.size 106 5 (.slice (some ⟨g, 0, none⟩) 11 11) 11 (item1C xb).toList :=
    ⟨h1, .inr ⟨g, 11, item1C xb, rfl, hg, h, Nat.le_refl _, by unfold maxLen; omega, h1, List.take_of_length_le (by rw [h1]; omega)⟩⟩
  exact this
/-- append(s, four places), as one operation -/
theorem op_append_plc (s x : Nat) (a : Act) (w : World) (base : Nat) (v : Value) (xs : List Plc) (g xb o : Nat) (hs : a.tmps.getD s undef = v) (hx : a.tmps.getD x undef = .slice (some ⟨g, 0, none⟩) 4 4) (hown : OwnP w base v xs) (hg : w.heap[g]? = some (.cells (extC xb o) 106 (0, 0))) (hl : xs.length ≤ 1000000) (hbase : base ≤ w.heap.size) :
    ∃ v' w', (∀ o : Oper, o.op = .call { callee := .builtin .append, args := #[.tmp s, .tmp x], argTypes := #[109, 109] } → o.type = 109 → (execOp a.eval o).run Tryd.prog w = .ok (.value v') w') ∧ OwnP w' base v' (xs ++ extP xb o) ∧ w.grownBy w' v.ownBlock ∧ (∃ g cap, v' = .slice (some ⟨g, 0, none⟩) (xs.length + 4) cap) ∧ ∀ g, v'.ownBlock = some g → v.ownBlock = some g ∨ w.heap.size ≤ g := by
  obtain ⟨i0, hi, hz0, hz1, hz2⟩ := info_parts info_place
  obtain ⟨g', cap', w', hr, h2, h3, h4, -⟩ := run_append_lies (P := Tryd.prog) w 109 109 base 106 i0 _ 5 40 Tryd.underlying109 hi hz0 hz1 hz2 rfl (by decide) v xs.length (xs.flatMap Plc.cells) hown ⟨g, 0, none⟩ 4 4 (extC xb o).toList rfl
    (by
      intro j y hj
      have := cell_of_row w g j _ _ _ hg
      have e : (⟨g, 0, none⟩ : Addr).add j = ⟨g, j, none⟩ := by unfold Addr.add; split <;> simp_all
      rw [e, this]
      simpa using hj) (by rw [← ext_cells]; intro u hu; obtain ⟨p, -, hp⟩ := List.mem_flatMap.1 hu; exact plc_cells p u hp) (by omega) (by unfold maxLen; omega) (by omega) hbase _ rfl
  refine ⟨_, w', fun o ho hty => ?_, ?_, h3, ⟨g', cap', rfl⟩, fun g hgg => ?_⟩
  · unfold execOp
    simp only [ho, hty, resolve, invoke, builtin, Sem.run_bind, Sem.run_pure, Result.andThen_ok, List.map_toArray, List.map_cons, List.map_nil, Act.eval, hs, hx, hr]
  · show World.ownsRow _ _ _ _ _ _ _
    rw [List.length_append, List.flatMap_append, ext_cells]
    exact h2
  · simp only [Value.ownBlock, Option.some.injEq] at hgg
    subst hgg
    rcases h4 with h4 | h4
    · exact .inl h4
    · exact .inr (by omega)
/-- what holds while the round of an extreme value runs -/
structure AJ (W0 : World) (B r2 : Nat) (p0 p1 : Value) (xb eo : Nat) (v : Value) (ps : List Plc) (d17 d18 : Bool) (v17 v18 : Value) (W : World) : Prop where
  low : Below B W0 W
  siz : W0.heap.size ≤ W.heap.size
  bs : B ≤ W0.heap.size
  o87 : d18 = true → d17 = true
  row2 : W.heap[r2]? = some (.cells #[p0, p1] 116 (0, 0))
  own0 : d18 = false → OwnP W B v ps
  lit : d17 = true → ∃ g, v17 = .slice (some ⟨g, 0, none⟩) 4 4 ∧ (d18 = false → W.heap[g]? = some (.cells (extC xb eo) 106 (0, 0)))
  own1 : d18 = true → OwnP W B v18 (ps ++ extP xb eo)
theorem AJ.start {W0 : World} {B r2 : Nat} {p0 p1 : Value} {xb eo : Nat} {v : Value} {ps : List Plc} {v17 v18 : Value} (hB : B ≤ W0.heap.size) (ho : OwnP W0 B v ps) (hr : W0.heap[r2]? = some (.cells #[p0, p1] 116 (0, 0))) : AJ W0 B r2 p0 p1 xb eo v ps false false v17 v18 W0.drew :=
  ⟨(Below.refl _ _).drew, Nat.le_refl _, hB, (fun e => by cases e), hr, fun _ => ho, (fun e => by cases e), (fun e => by cases e)⟩
theorem AJ.below {W0 : World} {B r2 : Nat} {p0 p1 : Value} {xb eo : Nat} {v : Value} {ps : List Plc} {d17 d18 : Bool} {v17 v18 : Value} {W W' : World} (h : AJ W0 B r2 p0 p1 xb eo v ps d17 d18 v17 v18 W) (hb : Below W.heap.size W W') : AJ W0 B r2 p0 p1 xb eo v ps d17 d18 v17 v18 W' :=
  ⟨h.low.trans (hb.mono (Nat.le_trans h.bs h.siz)), Nat.le_trans h.siz hb.size, h.bs, h.o87, stays h.row2 hb, fun e => (h.own0 e).below hb,
    fun e => by obtain ⟨g, h1, h2⟩ := h.lit e; exact ⟨g, h1, fun e4 => stays (h2 e4) hb⟩, fun e => (h.own1 e).below hb⟩
theorem AJ.builds {W0 : World} {B r2 : Nat} {p0 p1 : Value} {xb eo : Nat} {v : Value} {ps : List Plc} {d18 : Bool} {v17 v17' v18 : Value} {W : World} (h : AJ W0 B r2 p0 p1 xb eo v ps false d18 v17 v18 W) (hv : v17' = .slice (some ⟨W.heap.size, 0, none⟩) 4 4) : AJ W0 B r2 p0 p1 xb eo v ps true d18 v17' v18 (W.alloc (.cells (extC xb eo) 106)) := by
  have g := h.below (new_block W (.cells (extC xb eo) 106)).1
  exact ⟨g.low, g.siz, g.bs, fun _ => rfl, g.row2, g.own0, fun _ => ⟨_, hv, fun _ => (new_block W _).2⟩, g.own1⟩
theorem AJ.appends {W0 : World} {B r2 : Nat} {p0 p1 : Value} {xb eo : Nat} {v : Value} {ps : List Plc} {v17 v18 v18' : Value} {W W' : World} (h : AJ W0 B r2 p0 p1 xb eo v ps true false v17 v18 W) (ho : OwnP W' B v18' (ps ++ extP xb eo)) (hg : W.grownBy W' v.ownBlock) : AJ W0 B r2 p0 p1 xb eo v ps true true v17 v18' W' := by
  have hown := h.own0 rfl
  have hrs := (Array.getElem?_eq_some_iff.1 h.row2).1
  have hne : v.ownBlock ≠ some r2 := fun e => by
    obtain ⟨c, fz, hc⟩ := Lib.ownsRow_kind hown r2 e
    rw [h.row2] at hc
    cases hc
  refine ⟨h.low.grown hg (Nat.le_trans h.bs h.siz) (fun k e => (World.ownsRow.lt hown k e).1), Nat.le_trans h.siz hg.size, h.bs, fun _ => rfl, (hg.block r2 hrs (fun e => hne e.symm)).trans h.row2, (fun e => by cases e), fun e => by obtain ⟨g, h1, -⟩ := h.lit e; exact ⟨g, h1, fun e => by cases e⟩, fun _ => ho⟩

end Go.Proofs.YtgnpjenpehfjbaaDoor

namespace Go.Proofs.YtgnpjenpehfjbaaDoor
open Go.RowKit

attribute [local go_sem] Oper.semAt_some

theorem build_txt (xb : Nat) (W : World) : (Instr.build 106 #[(0, .int .i64 3), (3, (.pointer (some ⟨xb, 0, none⟩)))]).run Tryd.prog W = .ok (.agg #[.int .i64 3, .pointer none, .pointer none, .pointer (some ⟨xb, 0, none⟩), .pointer none]) W := by kernel_rfl
theorem exec_build {P : Program} {o : Oper} {a : Act} {W : World} (t : TypeId) (parts : Array (Nat × Operand)) (ho : o.op = .build t parts) (ps : Array (Nat × Value)) (hp : (parts.map fun (i, x) => (i, a.eval x)) = ps) (v : Value) (W' : World) (hr : (Instr.build t ps).run P W = .ok v W') : (execOp a.eval o).run P W = .ok (.value v) W' := by
  subst hp
  unfold execOp
  simp only [ho, Sem.run_bind, hr, Result.andThen_ok]
  rfl
theorem build_two (xb : Nat) (W : World) : (Instr.buildSlice 117 2 #[(0, (.pointer (some ⟨xb, 11, none⟩))), (1, (.pointer (some ⟨xb, 15, none⟩)))]).run Tryd.prog W = .ok (.slice (some ⟨W.heap.size, 0, none⟩) 2 2) (W.alloc (.cells #[(.pointer (some ⟨xb, 11, none⟩)), (.pointer (some ⟨xb, 15, none⟩))] 116)) := by kernel_rfl
/-- the item's own pointer, in its box -/
def InvI (q xb : Nat) (W : World) : Prop := W.heap[q]? = some (.cells #[(.pointer (some ⟨xb, 0, none⟩))] 71 (0, 0))
structure IJ (w : World) (xb : Nat) (d44 d45 : Bool) (v44 v45 : Value) (W : World) : Prop where
  low : Below w.heap.size w W
  o54 : d45 = true → d44 = true
  row : d44 = true → ∃ g, v44 = .slice (some ⟨g, 0, none⟩) 11 11 ∧ w.heap.size ≤ g ∧ W.heap[g]? = some (.cells (item1C xb) 106 (0, 0))
  ans : d45 = true → v45 = v44
theorem IJ.below {w : World} {xb : Nat} {d44 d45 : Bool} {v44 v45 : Value} {W W' : World} (h : IJ w xb d44 d45 v44 v45 W) (hb : Below W.heap.size W W') : IJ w xb d44 d45 v44 v45 W' :=
  ⟨h.low.trans (hb.mono h.low.size), h.o54, fun e => by obtain ⟨g, h1, h2, h3⟩ := h.row e; exact ⟨g, h1, h2, stays h3 hb⟩, h.ans⟩
theorem IJ.builds {w : World} {xb : Nat} {d45 : Bool} {v44 v44' v45 : Value} {W : World} (h : IJ w xb false d45 v44 v45 W) (hv : v44' = .slice (some ⟨W.heap.size, 0, none⟩) 11 11) : IJ w xb true d45 v44' v45 (W.alloc (.cells (item1C xb) 106)) :=
  ⟨(h.below (new_block W _).1).low, fun _ => rfl, fun _ => ⟨_, hv, h.low.size, (new_block W _).2⟩, fun e => by have := h.o54 e; cases this⟩
structure IK (w : World) (xb : Nat) (v : Value) (d6 : Bool) (v6 : Value) (W : World) : Prop where
  low : Below w.heap.size w W
  own : OwnP W w.heap.size v (item1P xb)
  row : d6 = true → ∃ g, v6 = .slice (some ⟨g, 0, none⟩) 2 2 ∧ W.heap[g]? = some (.cells #[(.pointer (some ⟨xb, 11, none⟩)), (.pointer (some ⟨xb, 15, none⟩))] 116 (0, 0))
theorem IK.below {w : World} {xb : Nat} {v : Value} {d6 : Bool} {v6 : Value} {W W' : World} (h : IK w xb v d6 v6 W) (hb : Below W.heap.size W W') : IK w xb v d6 v6 W' :=
  ⟨h.low.trans (hb.mono h.low.size), h.own.below hb, fun e => by obtain ⟨g, h1, h3⟩ := h.row e; exact ⟨g, h1, stays h3 hb⟩⟩
theorem IK.builds {w : World} {xb : Nat} {v : Value} {v6 v6' : Value} {W : World} (h : IK w xb v false v6 W) (hv : v6' = .slice (some ⟨W.heap.size, 0, none⟩) 2 2) : IK w xb v true v6' (W.alloc (.cells #[(.pointer (some ⟨xb, 11, none⟩)), (.pointer (some ⟨xb, 15, none⟩))] 116)) :=
  ⟨(h.below (new_block W _).1).low, (h.below (new_block W _).1).own, fun _ => ⟨_, hv, (new_block W _).2⟩⟩
theorem take_ext (xb k : Nat) (h : k < 2) : (itemP xb).take (11 + 4 * k) ++ extP xb (11 + 4 * k) = (itemP xb).take (11 + 4 * (k + 1)) := by
  rcases (show k = 0 ∨ k = 1 by omega) with rfl | rfl <;> rfl
theorem flat_plc (ps : List Plc) (i : Nat) (p : Plc) (h : ps[i]? = some p) (j : Nat) (hj : j < 5) : (ps.flatMap Plc.cells)[i * 5 + j]? = p.cells[j]? := by
  induction ps generalizing i with
  | nil => simp at h
  | cons a t ih =>
    have ha : a.cells.length = 5 := rfl
    cases i with
    | zero => simp at h; subst h; rw [List.flatMap_cons, List.getElem?_append_left (by omega)]; simp
    | succ i =>
      rw [List.flatMap_cons, List.getElem?_append_right (by omega), ha, show (i + 1) * 5 + j - 5 = i * 5 + j by omega]
      exact ih i (by simpa using h)
theorem cell_same {W W' : World} {g o : Nat} (h : W.heap[g]? = W'.heap[g]?) : W.cell? ⟨g, o, none⟩ = W'.cell? ⟨g, o, none⟩ := by
  unfold World.cell?
  simp only [h]
theorem row_of_owns {W : World} {B g cap : Nat} {ps : List Plc} (h : OwnP W B (.slice (some ⟨g, 0, none⟩) ps.length cap) ps) : RowP W g ps := by
  intro i p hp j u hu
  have hj : j < 5 := (List.getElem?_eq_some_iff.1 hu).1
  have hi := (List.getElem?_eq_some_iff.1 hp).1
  rw [World.ownsRow.cellAt h _ (by omega), flat_plc ps i p hp j hj]
  exact hu

set_option maxRecDepth 100000 in
set_option maxHeartbeats 8000000 in
theorem item_iter (q xb : Nat) (m : Nat) :
    IteratesT Fence.wide m Tryd.prog 61 #[(.pointer (some ⟨q, 0, none⟩))] (encP (itemP xb)) (InvI q xb) (fun pre k _ => pre = List.range k ∧ k < (itemP xb).length) (fun xs => xs = List.range (itemP xb).length) (fun pre => ∃ k, k < (itemP xb).length ∧ pre = List.range (k + 1)) := by
  intro yl J Jx T w hJ hInv hT1 hT2 hY h0
  have HJ := Lib.hid hJ
  have HY := Lib.hid hY
  have HT1 := Lib.hid hT1
  have HT2 := Lib.hid hT2
  have H0 := Lib.hid h0
  have hq : w.heap[q]? = some (.cells #[(.pointer (some ⟨xb, 0, none⟩))] 71 (0, 0)) := hInv _ _ h0
  have hqs := (Array.getElem?_eq_some_iff.1 hq).1
  have c1 := cell_of_row _ _ 0 _ _ _ hq
  have C1 := Lib.hid c1
  clear hJ hY hInv hT1 hT2 h0 hq
  refine callsIn_of_wp Tryd.func61 rfl trivial ?_ rfl
  simp only [Tryd.ntmps61, List.size_toArray, List.length_cons, List.length_nil, Nat.reduceAdd, Nat.reduceSub, Array.replicate_succ, Array.replicate_zero, List.push_toArray, List.append_toArray, List.nil_append, List.cons_append]
  gi_wp2_with (fail)
  refine wpIn_flowM (F0 := Fence.wide) (n0 := m) (fun _ => trivial) (fun h => by cases h) (by kernel_rfl) (by kernel_rfl) 8 8 (by kernel_rfl) (fun j => ([0, 1, 2, 3, 4, 5, 6, 7] : List Nat).getD j 0) (fun j => ([10, 11, 12, 13, 14, 15, 3, 4] : List Nat).getD j 0) (by kernel_rfl) (by kernel_rfl) (by kernel_rfl) (by kernel_rfl) (by kernel_rfl) (by kernel_rfl) (by kernel_rfl) (fun j zv => ([(fun zv => zv = (.pointer (some ⟨xb, 0, none⟩))), (fun zv => zv = (.pointer (some ⟨xb, 0, none⟩))), (fun zv => zv = (.pointer (some ⟨xb, 0, none⟩))), (fun zv => zv = (.pointer (some ⟨xb, 0, none⟩))), (fun zv => zv = (.pointer (some ⟨xb, 0, none⟩))), (fun zv => zv = (.pointer (some ⟨xb, 6, none⟩))), (fun zv => zv = (.pointer (some ⟨xb, 0, none⟩))), (fun zv => zv = (.pointer (some ⟨xb, 6, none⟩)))] : List (Value → Prop)).getD j (fun _ => True) zv) (fun d vs W => Below w.heap.size w W) ?h0z ?stepz ?finz
  case h0z => exact fun vs => (Below.refl _ _).drew
  case stepz =>
    intro i o a W d vs hi ho hdi hJ hf hr hF
    replace hi : i < 8 := hi
    rcases (show i = 0 ∨ i = 1 ∨ i = 2 ∨ i = 3 ∨ i = 4 ∨ i = 5 ∨ i = 6 ∨ i = 7 by omega) with rfl | rfl | rfl | rfl | rfl | rfl | rfl | rfl
    · replace ho := op_at ho (by rfl)
      subst ho
      have f1 : a.tmps.getD 1 undef = (.pointer (some ⟨q, 0, none⟩)) := hf 1 (by kernel_rfl)
      have c1 := (hJ.cell (p := ⟨q, 0, none⟩) hqs).trans C1.out
      exact .inl ⟨(fun k b h => by cases h), .inl ⟨0, by decide, rfl, (.pointer (some ⟨xb, 0, none⟩)), W, (by simp [go_sem, Act.eval, f1, c1]), rfl, hJ⟩⟩
    · replace ho := op_at ho (by rfl)
      subst ho
      have d0 : a.tmps.getD 10 undef = (.pointer (some ⟨xb, 0, none⟩)) := by have h1 := hF 0 (by decide) (hr 0 (by kernel_rfl)); exact h1.2.trans h1.1
      exact .inl ⟨(fun k b h => by cases h), .inl ⟨1, by decide, rfl, (.pointer (some ⟨xb, 0, none⟩)), W, (by simp [go_sem, Act.eval, d0]), rfl, hJ⟩⟩
    · replace ho := op_at ho (by rfl)
      subst ho
      have d1 : a.tmps.getD 11 undef = (.pointer (some ⟨xb, 0, none⟩)) := by have h1 := hF 1 (by decide) (hr 1 (by kernel_rfl)); exact h1.2.trans h1.1
      exact .inl ⟨(fun k b h => by cases h), .inl ⟨2, by decide, rfl, (.pointer (some ⟨xb, 0, none⟩)), W, (by simp [go_sem, Act.eval, d1]), rfl, hJ⟩⟩
    · replace ho := op_at ho (by rfl)
      subst ho
      have f1 : a.tmps.getD 1 undef = (.pointer (some ⟨q, 0, none⟩)) := hf 1 (by kernel_rfl)
      have c1 := (hJ.cell (p := ⟨q, 0, none⟩) hqs).trans C1.out
      exact .inl ⟨(fun k b h => by cases h), .inl ⟨3, by decide, rfl, (.pointer (some ⟨xb, 0, none⟩)), W, (by simp [go_sem, Act.eval, f1, c1]), rfl, hJ⟩⟩
    · replace ho := op_at ho (by rfl)
      subst ho
      have d3 : a.tmps.getD 13 undef = (.pointer (some ⟨xb, 0, none⟩)) := by have h1 := hF 3 (by decide) (hr 3 (by kernel_rfl)); exact h1.2.trans h1.1
      exact .inl ⟨(fun k b h => by cases h), .inl ⟨4, by decide, rfl, (.pointer (some ⟨xb, 0, none⟩)), W, (by simp [go_sem, Act.eval, d3]), rfl, hJ⟩⟩
    · replace ho := op_at ho (by rfl)
      subst ho
      have d4 : a.tmps.getD 14 undef = (.pointer (some ⟨xb, 0, none⟩)) := by have h1 := hF 4 (by decide) (hr 4 (by kernel_rfl)); exact h1.2.trans h1.1
      exact .inl ⟨(fun k b h => by cases h), .inl ⟨5, by decide, rfl, (.pointer (some ⟨xb, 6, none⟩)), W, (by simp [go_sem, Act.eval, d4]), rfl, hJ⟩⟩
    · replace ho := op_at ho (by rfl)
      subst ho
      have d2 : a.tmps.getD 12 undef = (.pointer (some ⟨xb, 0, none⟩)) := by have h1 := hF 2 (by decide) (hr 2 (by kernel_rfl)); exact h1.2.trans h1.1
      exact .inl ⟨(fun k b h => by cases h), .inl ⟨6, by decide, rfl, (.pointer (some ⟨xb, 0, none⟩)), W, (by simp [go_sem, Act.eval, d2]), rfl, hJ⟩⟩
    · replace ho := op_at ho (by rfl)
      subst ho
      have d5 : a.tmps.getD 15 undef = (.pointer (some ⟨xb, 6, none⟩)) := by have h1 := hF 5 (by decide) (hr 5 (by kernel_rfl)); exact h1.2.trans h1.1
      exact .inl ⟨(fun k b h => by cases h), .inl ⟨7, by decide, rfl, (.pointer (some ⟨xb, 6, none⟩)), W, (by simp [go_sem, Act.eval, d5]), rfl, hJ⟩⟩
  case finz =>
    intro d vs Wz hall hJ hF
    have h0 : vs 0 = (.pointer (some ⟨xb, 0, none⟩)) := hF 0 (by decide)
    have h1 : vs 1 = (.pointer (some ⟨xb, 0, none⟩)) := hF 1 (by decide)
    have h2 : vs 2 = (.pointer (some ⟨xb, 0, none⟩)) := hF 2 (by decide)
    have h3 : vs 3 = (.pointer (some ⟨xb, 0, none⟩)) := hF 3 (by decide)
    have h4 : vs 4 = (.pointer (some ⟨xb, 0, none⟩)) := hF 4 (by decide)
    have h5 : vs 5 = (.pointer (some ⟨xb, 6, none⟩)) := hF 5 (by decide)
    have h6 : vs 6 = (.pointer (some ⟨xb, 0, none⟩)) := hF 6 (by decide)
    have h7 : vs 7 = (.pointer (some ⟨xb, 6, none⟩)) := hF 7 (by decide)
    clear hF
    show (_ : Exit → Act → World → Prop) Exit.normal (puts _ vs 8 _) Wz
    simp only [puts, h0, h1, h2, h3, h4, h5, h6, h7, List.getD_cons_zero, List.getD_cons_succ]
    clear h0 h1 h2 h3 h4 h5 h6 h7
    have HB1 := Lib.hid hJ
    clear hJ hall
    go_simp
    gi_wp2_with (fail)
    refine wpIn_flowM (F0 := Fence.wide) (n0 := m) (fun _ => trivial) (fun h => by cases h) (by kernel_rfl) (by kernel_rfl) 46 46 (by kernel_rfl) (fun j => ([0, 1, 2, 3, 4, 5, 6, 7, 8, 9, 10, 11, 12, 13, 14, 15, 16, 17, 18, 19, 20, 21, 22, 23, 24, 25, 26, 27, 28, 29, 30, 31, 32, 33, 34, 35, 36, 37, 38, 39, 40, 41, 42, 43, 44, 45] : List Nat).getD j 0) (fun j => ([16, 17, 18, 19, 20, 21, 22, 23, 24, 25, 26, 27, 28, 29, 30, 31, 32, 33, 34, 35, 36, 37, 38, 39, 40, 41, 42, 43, 44, 45, 46, 47, 48, 49, 50, 51, 52, 53, 54, 55, 56, 57, 58, 59, 60, 5] : List Nat).getD j 0) (by kernel_rfl) (by kernel_rfl) (by kernel_rfl) (by kernel_rfl) (by kernel_rfl) (by kernel_rfl) (by kernel_rfl) (fun j zv => ([(fun zv => zv = (.pointer (some ⟨xb, 0, none⟩))), (fun zv => zv = (.pointer (some ⟨xb, 0, none⟩))), (fun zv => zv = (.pointer (some ⟨xb, 0, none⟩))), (fun zv => zv = (.agg #[.int .i64 3, .pointer none, .pointer none, .pointer (some ⟨xb, 0, none⟩), .pointer none])), (fun zv => zv = (.pointer (some ⟨xb, 0, none⟩))), (fun zv => zv = (.pointer (some ⟨xb, 0, none⟩))), (fun zv => zv = (.pointer (some ⟨xb, 1, none⟩))), (fun zv => zv = (.agg #[.int .i64 1, .pointer (some ⟨xb, 1, none⟩), .pointer none, .pointer none, .pointer none])), (fun zv => zv = (.pointer (some ⟨xb, 0, none⟩))), (fun zv => zv = (.pointer (some ⟨xb, 0, none⟩))), (fun zv => zv = (.pointer (some ⟨xb, 2, none⟩))), (fun zv => zv = (.agg #[.int .i64 1, .pointer none, .pointer (some ⟨xb, 2, none⟩), .pointer none, .pointer none])), (fun zv => zv = (.pointer (some ⟨xb, 0, none⟩))), (fun zv => zv = (.pointer (some ⟨xb, 0, none⟩))), (fun zv => zv = (.pointer (some ⟨xb, 3, none⟩))), (fun zv => zv = (.agg #[.int .i64 4, .pointer none, .pointer none, .pointer none, .pointer (some ⟨xb, 3, none⟩)])), (fun zv => zv = (.pointer (some ⟨xb, 0, none⟩))), (fun zv => zv = (.pointer (some ⟨xb, 0, none⟩))), (fun zv => zv = (.pointer (some ⟨xb, 4, none⟩))), (fun zv => zv = (.agg #[.int .i64 1, .pointer none, .pointer (some ⟨xb, 4, none⟩), .pointer none, .pointer none])), (fun zv => zv = (.pointer (some ⟨xb, 0, none⟩))), (fun zv => zv = (.pointer (some ⟨xb, 0, none⟩))), (fun zv => zv = (.pointer (some ⟨xb, 5, none⟩))), (fun zv => zv = (.agg #[.int .i64 1, .pointer (some ⟨xb, 5, none⟩), .pointer none, .pointer none, .pointer none])), (fun zv => zv = (.pointer (some ⟨xb, 6, none⟩))), (fun zv => zv = (.pointer (some ⟨xb, 6, none⟩))), (fun zv => zv = (.pointer (some ⟨xb, 6, none⟩))), (fun zv => zv = (.agg #[.int .i64 1, .pointer (some ⟨xb, 6, none⟩), .pointer none, .pointer none, .pointer none])), (fun zv => zv = (.pointer (some ⟨xb, 6, none⟩))), (fun zv => zv = (.pointer (some ⟨xb, 6, none⟩))), (fun zv => zv = (.pointer (some ⟨xb, 7, none⟩))), (fun zv => zv = (.agg #[.int .i64 1, .pointer none, .pointer (some ⟨xb, 7, none⟩), .pointer none, .pointer none])), (fun zv => zv = (.pointer (some ⟨xb, 6, none⟩))), (fun zv => zv = (.pointer (some ⟨xb, 6, none⟩))), (fun zv => zv = (.pointer (some ⟨xb, 8, none⟩))), (fun zv => zv = (.agg #[.int .i64 2, .pointer (some ⟨xb, 8, none⟩), .pointer none, .pointer none, .pointer none])), (fun zv => zv = (.pointer (some ⟨xb, 0, none⟩))), (fun zv => zv = (.pointer (some ⟨xb, 0, none⟩))), (fun zv => zv = (.pointer (some ⟨xb, 9, none⟩))), (fun zv => zv = (.agg #[.int .i64 4, .pointer none, .pointer none, .pointer none, .pointer (some ⟨xb, 9, none⟩)])), (fun zv => zv = (.pointer (some ⟨xb, 0, none⟩))), (fun zv => zv = (.pointer (some ⟨xb, 0, none⟩))), (fun zv => zv = (.pointer (some ⟨xb, 10, none⟩))), (fun zv => zv = (.agg #[.int .i64 2, .pointer (some ⟨xb, 10, none⟩), .pointer none, .pointer none, .pointer none])), (fun zv => ∃ g, zv = .slice (some ⟨g, 0, none⟩) 11 11), (fun zv => ∃ g, zv = .slice (some ⟨g, 0, none⟩) 11 11)] : List (Value → Prop)).getD j (fun _ => True) zv) (fun d vs W => IJ w xb (d 44) (d 45) (vs 44) (vs 45) W) ?h0y ?stepy ?finy
    case h0y => exact fun vs => ⟨HB1.out.drew, (fun e => by cases e), (fun e => by cases e), (fun e => by cases e)⟩
    case stepy =>
      intro i o a W d vs hi ho hdi hJ hf hr hF
      replace hi : i < 46 := hi
      rcases (show i = 0 ∨ i = 1 ∨ i = 2 ∨ i = 3 ∨ i = 4 ∨ i = 5 ∨ i = 6 ∨ i = 7 ∨ i = 8 ∨ i = 9 ∨ i = 10 ∨ i = 11 ∨ i = 12 ∨ i = 13 ∨ i = 14 ∨ i = 15 ∨ i = 16 ∨ i = 17 ∨ i = 18 ∨ i = 19 ∨ i = 20 ∨ i = 21 ∨ i = 22 ∨ i = 23 ∨ i = 24 ∨ i = 25 ∨ i = 26 ∨ i = 27 ∨ i = 28 ∨ i = 29 ∨ i = 30 ∨ i = 31 ∨ i = 32 ∨ i = 33 ∨ i = 34 ∨ i = 35 ∨ i = 36 ∨ i = 37 ∨ i = 38 ∨ i = 39 ∨ i = 40 ∨ i = 41 ∨ i = 42 ∨ i = 43 ∨ i = 44 ∨ i = 45 by omega) with rfl | rfl | rfl | rfl | rfl | rfl | rfl | rfl | rfl | rfl | rfl | rfl | rfl | rfl | rfl | rfl | rfl | rfl | rfl | rfl | rfl | rfl | rfl | rfl | rfl | rfl | rfl | rfl | rfl | rfl | rfl | rfl | rfl | rfl | rfl | rfl | rfl | rfl | rfl | rfl | rfl | rfl | rfl | rfl | rfl | rfl
      · replace ho := op_at ho (by rfl)
        subst ho
        have f3 : a.tmps.getD 3 undef = (.pointer (some ⟨xb, 0, none⟩)) := hf 3 (by kernel_rfl)
        exact .inl ⟨(fun k b h => by cases h), .inl ⟨0, by decide, rfl, (.pointer (some ⟨xb, 0, none⟩)), W, (by simp [go_sem, Act.eval, f3]), rfl, hJ⟩⟩
      · replace ho := op_at ho (by rfl)
        subst ho
        have d0 : a.tmps.getD 16 undef = (.pointer (some ⟨xb, 0, none⟩)) := by have h1 := hF 0 (by decide) (hr 0 (by kernel_rfl)); exact h1.2.trans h1.1
        exact .inl ⟨(fun k b h => by cases h), .inl ⟨1, by decide, rfl, (.pointer (some ⟨xb, 0, none⟩)), W, (by simp [go_sem, Act.eval, d0]), rfl, hJ⟩⟩
      · replace ho := op_at ho (by rfl)
        subst ho
        have d1 : a.tmps.getD 17 undef = (.pointer (some ⟨xb, 0, none⟩)) := by have h1 := hF 1 (by decide) (hr 1 (by kernel_rfl)); exact h1.2.trans h1.1
        exact .inl ⟨(fun k b h => by cases h), .inl ⟨2, by decide, rfl, (.pointer (some ⟨xb, 0, none⟩)), W, (by simp [go_sem, Act.eval, d1]), rfl, hJ⟩⟩
      · replace ho := op_at ho (by rfl)
        subst ho
        have d2 : a.tmps.getD 18 undef = (.pointer (some ⟨xb, 0, none⟩)) := by have h1 := hF 2 (by decide) (hr 2 (by kernel_rfl)); exact h1.2.trans h1.1
        exact .inl ⟨(fun k b h => by cases h), .inl ⟨3, by decide, rfl, (.agg #[.int .i64 3, .pointer none, .pointer none, .pointer (some ⟨xb, 0, none⟩), .pointer none]), W, (exec_build _ _ rfl _ (by simp only [List.map_toArray, List.map_cons, List.map_nil, Act.eval, d2]) _ _ (build_txt xb W)), rfl, hJ⟩⟩
      · replace ho := op_at ho (by rfl)
        subst ho
        have f3 : a.tmps.getD 3 undef = (.pointer (some ⟨xb, 0, none⟩)) := hf 3 (by kernel_rfl)
        exact .inl ⟨(fun k b h => by cases h), .inl ⟨4, by decide, rfl, (.pointer (some ⟨xb, 0, none⟩)), W, (by simp [go_sem, Act.eval, f3]), rfl, hJ⟩⟩
      · replace ho := op_at ho (by rfl)
        subst ho
        have d4 : a.tmps.getD 20 undef = (.pointer (some ⟨xb, 0, none⟩)) := by have h1 := hF 4 (by decide) (hr 4 (by kernel_rfl)); exact h1.2.trans h1.1
        exact .inl ⟨(fun k b h => by cases h), .inl ⟨5, by decide, rfl, (.pointer (some ⟨xb, 0, none⟩)), W, (by simp [go_sem, Act.eval, d4]), rfl, hJ⟩⟩
      · replace ho := op_at ho (by rfl)
        subst ho
        have d5 : a.tmps.getD 21 undef = (.pointer (some ⟨xb, 0, none⟩)) := by have h1 := hF 5 (by decide) (hr 5 (by kernel_rfl)); exact h1.2.trans h1.1
        exact .inl ⟨(fun k b h => by cases h), .inl ⟨6, by decide, rfl, (.pointer (some ⟨xb, 1, none⟩)), W, (by simp [go_sem, Act.eval, d5]), rfl, hJ⟩⟩
      · replace ho := op_at ho (by rfl)
        subst ho
        have d6 : a.tmps.getD 22 undef = (.pointer (some ⟨xb, 1, none⟩)) := by have h1 := hF 6 (by decide) (hr 6 (by kernel_rfl)); exact h1.2.trans h1.1
        refine .inl ⟨(fun k b h => by cases h), .inr (.inr ⟨7, by decide, rfl, 60, #[(.pointer (some ⟨xb, 1, none⟩))], W, (by simp [go_sem, Act.eval, d6]), ?_⟩)⟩
        refine (callsIn_wide.2 (whole_any _ W)).mono ?_
        rintro e W' ⟨rfl, hBe⟩
        exact ⟨_, rfl, rfl, hJ.below hBe⟩
      · replace ho := op_at ho (by rfl)
        subst ho
        have f3 : a.tmps.getD 3 undef = (.pointer (some ⟨xb, 0, none⟩)) := hf 3 (by kernel_rfl)
        exact .inl ⟨(fun k b h => by cases h), .inl ⟨8, by decide, rfl, (.pointer (some ⟨xb, 0, none⟩)), W, (by simp [go_sem, Act.eval, f3]), rfl, hJ⟩⟩
      · replace ho := op_at ho (by rfl)
        subst ho
        have d8 : a.tmps.getD 24 undef = (.pointer (some ⟨xb, 0, none⟩)) := by have h1 := hF 8 (by decide) (hr 8 (by kernel_rfl)); exact h1.2.trans h1.1
        exact .inl ⟨(fun k b h => by cases h), .inl ⟨9, by decide, rfl, (.pointer (some ⟨xb, 0, none⟩)), W, (by simp [go_sem, Act.eval, d8]), rfl, hJ⟩⟩
      · replace ho := op_at ho (by rfl)
        subst ho
        have d9 : a.tmps.getD 25 undef = (.pointer (some ⟨xb, 0, none⟩)) := by have h1 := hF 9 (by decide) (hr 9 (by kernel_rfl)); exact h1.2.trans h1.1
        exact .inl ⟨(fun k b h => by cases h), .inl ⟨10, by decide, rfl, (.pointer (some ⟨xb, 2, none⟩)), W, (by simp [go_sem, Act.eval, d9]), rfl, hJ⟩⟩
      · replace ho := op_at ho (by rfl)
        subst ho
        have d10 : a.tmps.getD 26 undef = (.pointer (some ⟨xb, 2, none⟩)) := by have h1 := hF 10 (by decide) (hr 10 (by kernel_rfl)); exact h1.2.trans h1.1
        refine .inl ⟨(fun k b h => by cases h), .inr (.inr ⟨11, by decide, rfl, 59, #[(.pointer (some ⟨xb, 2, none⟩))], W, (by simp [go_sem, Act.eval, d10]), ?_⟩)⟩
        refine (callsIn_wide.2 (small_any _ W)).mono ?_
        rintro e W' ⟨rfl, hBe⟩
        exact ⟨_, rfl, rfl, hJ.below hBe⟩
      · replace ho := op_at ho (by rfl)
        subst ho
        have f3 : a.tmps.getD 3 undef = (.pointer (some ⟨xb, 0, none⟩)) := hf 3 (by kernel_rfl)
        exact .inl ⟨(fun k b h => by cases h), .inl ⟨12, by decide, rfl, (.pointer (some ⟨xb, 0, none⟩)), W, (by simp [go_sem, Act.eval, f3]), rfl, hJ⟩⟩
      · replace ho := op_at ho (by rfl)
        subst ho
        have d12 : a.tmps.getD 28 undef = (.pointer (some ⟨xb, 0, none⟩)) := by have h1 := hF 12 (by decide) (hr 12 (by kernel_rfl)); exact h1.2.trans h1.1
        exact .inl ⟨(fun k b h => by cases h), .inl ⟨13, by decide, rfl, (.pointer (some ⟨xb, 0, none⟩)), W, (by simp [go_sem, Act.eval, d12]), rfl, hJ⟩⟩
      · replace ho := op_at ho (by rfl)
        subst ho
        have d13 : a.tmps.getD 29 undef = (.pointer (some ⟨xb, 0, none⟩)) := by have h1 := hF 13 (by decide) (hr 13 (by kernel_rfl)); exact h1.2.trans h1.1
        exact .inl ⟨(fun k b h => by cases h), .inl ⟨14, by decide, rfl, (.pointer (some ⟨xb, 3, none⟩)), W, (by simp [go_sem, Act.eval, d13]), rfl, hJ⟩⟩
      · replace ho := op_at ho (by rfl)
        subst ho
        have d14 : a.tmps.getD 30 undef = (.pointer (some ⟨xb, 3, none⟩)) := by have h1 := hF 14 (by decide) (hr 14 (by kernel_rfl)); exact h1.2.trans h1.1
        refine .inl ⟨(fun k b h => by cases h), .inr (.inr ⟨15, by decide, rfl, 62, #[(.pointer (some ⟨xb, 3, none⟩))], W, (by simp [go_sem, Act.eval, d14]), ?_⟩)⟩
        refine (callsIn_wide.2 (truth_any _ W)).mono ?_
        rintro e W' ⟨rfl, hBe⟩
        exact ⟨_, rfl, rfl, hJ.below hBe⟩
      · replace ho := op_at ho (by rfl)
        subst ho
        have f3 : a.tmps.getD 3 undef = (.pointer (some ⟨xb, 0, none⟩)) := hf 3 (by kernel_rfl)
        exact .inl ⟨(fun k b h => by cases h), .inl ⟨16, by decide, rfl, (.pointer (some ⟨xb, 0, none⟩)), W, (by simp [go_sem, Act.eval, f3]), rfl, hJ⟩⟩
      · replace ho := op_at ho (by rfl)
        subst ho
        have d16 : a.tmps.getD 32 undef = (.pointer (some ⟨xb, 0, none⟩)) := by have h1 := hF 16 (by decide) (hr 16 (by kernel_rfl)); exact h1.2.trans h1.1
        exact .inl ⟨(fun k b h => by cases h), .inl ⟨17, by decide, rfl, (.pointer (some ⟨xb, 0, none⟩)), W, (by simp [go_sem, Act.eval, d16]), rfl, hJ⟩⟩
      · replace ho := op_at ho (by rfl)
        subst ho
        have d17 : a.tmps.getD 33 undef = (.pointer (some ⟨xb, 0, none⟩)) := by have h1 := hF 17 (by decide) (hr 17 (by kernel_rfl)); exact h1.2.trans h1.1
        exact .inl ⟨(fun k b h => by cases h), .inl ⟨18, by decide, rfl, (.pointer (some ⟨xb, 4, none⟩)), W, (by simp [go_sem, Act.eval, d17]), rfl, hJ⟩⟩
      · replace ho := op_at ho (by rfl)
        subst ho
        have d18 : a.tmps.getD 34 undef = (.pointer (some ⟨xb, 4, none⟩)) := by have h1 := hF 18 (by decide) (hr 18 (by kernel_rfl)); exact h1.2.trans h1.1
        refine .inl ⟨(fun k b h => by cases h), .inr (.inr ⟨19, by decide, rfl, 59, #[(.pointer (some ⟨xb, 4, none⟩))], W, (by simp [go_sem, Act.eval, d18]), ?_⟩)⟩
        refine (callsIn_wide.2 (small_any _ W)).mono ?_
        rintro e W' ⟨rfl, hBe⟩
        exact ⟨_, rfl, rfl, hJ.below hBe⟩
      · replace ho := op_at ho (by rfl)
        subst ho
        have f3 : a.tmps.getD 3 undef = (.pointer (some ⟨xb, 0, none⟩)) := hf 3 (by kernel_rfl)
        exact .inl ⟨(fun k b h => by cases h), .inl ⟨20, by decide, rfl, (.pointer (some ⟨xb, 0, none⟩)), W, (by simp [go_sem, Act.eval, f3]), rfl, hJ⟩⟩
      · replace ho := op_at ho (by rfl)
        subst ho
        have d20 : a.tmps.getD 36 undef = (.pointer (some ⟨xb, 0, none⟩)) := by have h1 := hF 20 (by decide) (hr 20 (by kernel_rfl)); exact h1.2.trans h1.1
        exact .inl ⟨(fun k b h => by cases h), .inl ⟨21, by decide, rfl, (.pointer (some ⟨xb, 0, none⟩)), W, (by simp [go_sem, Act.eval, d20]), rfl, hJ⟩⟩
      · replace ho := op_at ho (by rfl)
        subst ho
        have d21 : a.tmps.getD 37 undef = (.pointer (some ⟨xb, 0, none⟩)) := by have h1 := hF 21 (by decide) (hr 21 (by kernel_rfl)); exact h1.2.trans h1.1
        exact .inl ⟨(fun k b h => by cases h), .inl ⟨22, by decide, rfl, (.pointer (some ⟨xb, 5, none⟩)), W, (by simp [go_sem, Act.eval, d21]), rfl, hJ⟩⟩
      · replace ho := op_at ho (by rfl)
        subst ho
        have d22 : a.tmps.getD 38 undef = (.pointer (some ⟨xb, 5, none⟩)) := by have h1 := hF 22 (by decide) (hr 22 (by kernel_rfl)); exact h1.2.trans h1.1
        refine .inl ⟨(fun k b h => by cases h), .inr (.inr ⟨23, by decide, rfl, 60, #[(.pointer (some ⟨xb, 5, none⟩))], W, (by simp [go_sem, Act.eval, d22]), ?_⟩)⟩
        refine (callsIn_wide.2 (whole_any _ W)).mono ?_
        rintro e W' ⟨rfl, hBe⟩
        exact ⟨_, rfl, rfl, hJ.below hBe⟩
      · replace ho := op_at ho (by rfl)
        subst ho
        have f4 : a.tmps.getD 4 undef = (.pointer (some ⟨xb, 6, none⟩)) := hf 4 (by kernel_rfl)
        exact .inl ⟨(fun k b h => by cases h), .inl ⟨24, by decide, rfl, (.pointer (some ⟨xb, 6, none⟩)), W, (by simp [go_sem, Act.eval, f4]), rfl, hJ⟩⟩
      · replace ho := op_at ho (by rfl)
        subst ho
        have d24 : a.tmps.getD 40 undef = (.pointer (some ⟨xb, 6, none⟩)) := by have h1 := hF 24 (by decide) (hr 24 (by kernel_rfl)); exact h1.2.trans h1.1
        exact .inl ⟨(fun k b h => by cases h), .inl ⟨25, by decide, rfl, (.pointer (some ⟨xb, 6, none⟩)), W, (by simp [go_sem, Act.eval, d24]), rfl, hJ⟩⟩
      · replace ho := op_at ho (by rfl)
        subst ho
        have d25 : a.tmps.getD 41 undef = (.pointer (some ⟨xb, 6, none⟩)) := by have h1 := hF 25 (by decide) (hr 25 (by kernel_rfl)); exact h1.2.trans h1.1
        exact .inl ⟨(fun k b h => by cases h), .inl ⟨26, by decide, rfl, (.pointer (some ⟨xb, 6, none⟩)), W, (by simp [go_sem, Act.eval, d25]), rfl, hJ⟩⟩
      · replace ho := op_at ho (by rfl)
        subst ho
        have d26 : a.tmps.getD 42 undef = (.pointer (some ⟨xb, 6, none⟩)) := by have h1 := hF 26 (by decide) (hr 26 (by kernel_rfl)); exact h1.2.trans h1.1
        refine .inl ⟨(fun k b h => by cases h), .inr (.inr ⟨27, by decide, rfl, 60, #[(.pointer (some ⟨xb, 6, none⟩))], W, (by simp [go_sem, Act.eval, d26]), ?_⟩)⟩
        refine (callsIn_wide.2 (whole_any _ W)).mono ?_
        rintro e W' ⟨rfl, hBe⟩
        exact ⟨_, rfl, rfl, hJ.below hBe⟩
      · replace ho := op_at ho (by rfl)
        subst ho
        have f4 : a.tmps.getD 4 undef = (.pointer (some ⟨xb, 6, none⟩)) := hf 4 (by kernel_rfl)
        exact .inl ⟨(fun k b h => by cases h), .inl ⟨28, by decide, rfl, (.pointer (some ⟨xb, 6, none⟩)), W, (by simp [go_sem, Act.eval, f4]), rfl, hJ⟩⟩
      · replace ho := op_at ho (by rfl)
        subst ho
        have d28 : a.tmps.getD 44 undef = (.pointer (some ⟨xb, 6, none⟩)) := by have h1 := hF 28 (by decide) (hr 28 (by kernel_rfl)); exact h1.2.trans h1.1
        exact .inl ⟨(fun k b h => by cases h), .inl ⟨29, by decide, rfl, (.pointer (some ⟨xb, 6, none⟩)), W, (by simp [go_sem, Act.eval, d28]), rfl, hJ⟩⟩
      · replace ho := op_at ho (by rfl)
        subst ho
        have d29 : a.tmps.getD 45 undef = (.pointer (some ⟨xb, 6, none⟩)) := by have h1 := hF 29 (by decide) (hr 29 (by kernel_rfl)); exact h1.2.trans h1.1
        exact .inl ⟨(fun k b h => by cases h), .inl ⟨30, by decide, rfl, (.pointer (some ⟨xb, 7, none⟩)), W, (by simp [go_sem, Act.eval, d29]), rfl, hJ⟩⟩
      · replace ho := op_at ho (by rfl)
        subst ho
        have d30 : a.tmps.getD 46 undef = (.pointer (some ⟨xb, 7, none⟩)) := by have h1 := hF 30 (by decide) (hr 30 (by kernel_rfl)); exact h1.2.trans h1.1
        refine .inl ⟨(fun k b h => by cases h), .inr (.inr ⟨31, by decide, rfl, 59, #[(.pointer (some ⟨xb, 7, none⟩))], W, (by simp [go_sem, Act.eval, d30]), ?_⟩)⟩
        refine (callsIn_wide.2 (small_any _ W)).mono ?_
        rintro e W' ⟨rfl, hBe⟩
        exact ⟨_, rfl, rfl, hJ.below hBe⟩
      · replace ho := op_at ho (by rfl)
        subst ho
        have f4 : a.tmps.getD 4 undef = (.pointer (some ⟨xb, 6, none⟩)) := hf 4 (by kernel_rfl)
        exact .inl ⟨(fun k b h => by cases h), .inl ⟨32, by decide, rfl, (.pointer (some ⟨xb, 6, none⟩)), W, (by simp [go_sem, Act.eval, f4]), rfl, hJ⟩⟩
      · replace ho := op_at ho (by rfl)
        subst ho
        have d32 : a.tmps.getD 48 undef = (.pointer (some ⟨xb, 6, none⟩)) := by have h1 := hF 32 (by decide) (hr 32 (by kernel_rfl)); exact h1.2.trans h1.1
        exact .inl ⟨(fun k b h => by cases h), .inl ⟨33, by decide, rfl, (.pointer (some ⟨xb, 6, none⟩)), W, (by simp [go_sem, Act.eval, d32]), rfl, hJ⟩⟩
      · replace ho := op_at ho (by rfl)
        subst ho
        have d33 : a.tmps.getD 49 undef = (.pointer (some ⟨xb, 6, none⟩)) := by have h1 := hF 33 (by decide) (hr 33 (by kernel_rfl)); exact h1.2.trans h1.1
        exact .inl ⟨(fun k b h => by cases h), .inl ⟨34, by decide, rfl, (.pointer (some ⟨xb, 8, none⟩)), W, (by simp [go_sem, Act.eval, d33]), rfl, hJ⟩⟩
      · replace ho := op_at ho (by rfl)
        subst ho
        have d34 : a.tmps.getD 50 undef = (.pointer (some ⟨xb, 8, none⟩)) := by have h1 := hF 34 (by decide) (hr 34 (by kernel_rfl)); exact h1.2.trans h1.1
        refine .inl ⟨(fun k b h => by cases h), .inr (.inr ⟨35, by decide, rfl, 63, #[(.pointer (some ⟨xb, 8, none⟩))], W, (by simp [go_sem, Act.eval, d34]), ?_⟩)⟩
        refine (callsIn_wide.2 (signed_any _ W)).mono ?_
        rintro e W' ⟨rfl, hBe⟩
        exact ⟨_, rfl, rfl, hJ.below hBe⟩
      · replace ho := op_at ho (by rfl)
        subst ho
        have f1 : a.tmps.getD 1 undef = (.pointer (some ⟨q, 0, none⟩)) := hf 1 (by kernel_rfl)
        have c1 := (hJ.low.cell (p := ⟨q, 0, none⟩) hqs).trans C1.out
        exact .inl ⟨(fun k b h => by cases h), .inl ⟨36, by decide, rfl, (.pointer (some ⟨xb, 0, none⟩)), W, (by simp [go_sem, Act.eval, f1, c1]), rfl, hJ⟩⟩
      · replace ho := op_at ho (by rfl)
        subst ho
        have d36 : a.tmps.getD 52 undef = (.pointer (some ⟨xb, 0, none⟩)) := by have h1 := hF 36 (by decide) (hr 36 (by kernel_rfl)); exact h1.2.trans h1.1
        exact .inl ⟨(fun k b h => by cases h), .inl ⟨37, by decide, rfl, (.pointer (some ⟨xb, 0, none⟩)), W, (by simp [go_sem, Act.eval, d36]), rfl, hJ⟩⟩
      · replace ho := op_at ho (by rfl)
        subst ho
        have d37 : a.tmps.getD 53 undef = (.pointer (some ⟨xb, 0, none⟩)) := by have h1 := hF 37 (by decide) (hr 37 (by kernel_rfl)); exact h1.2.trans h1.1
        exact .inl ⟨(fun k b h => by cases h), .inl ⟨38, by decide, rfl, (.pointer (some ⟨xb, 9, none⟩)), W, (by simp [go_sem, Act.eval, d37]), rfl, hJ⟩⟩
      · replace ho := op_at ho (by rfl)
        subst ho
        have d38 : a.tmps.getD 54 undef = (.pointer (some ⟨xb, 9, none⟩)) := by have h1 := hF 38 (by decide) (hr 38 (by kernel_rfl)); exact h1.2.trans h1.1
        refine .inl ⟨(fun k b h => by cases h), .inr (.inr ⟨39, by decide, rfl, 62, #[(.pointer (some ⟨xb, 9, none⟩))], W, (by simp [go_sem, Act.eval, d38]), ?_⟩)⟩
        refine (callsIn_wide.2 (truth_any _ W)).mono ?_
        rintro e W' ⟨rfl, hBe⟩
        exact ⟨_, rfl, rfl, hJ.below hBe⟩
      · replace ho := op_at ho (by rfl)
        subst ho
        have f1 : a.tmps.getD 1 undef = (.pointer (some ⟨q, 0, none⟩)) := hf 1 (by kernel_rfl)
        have c1 := (hJ.low.cell (p := ⟨q, 0, none⟩) hqs).trans C1.out
        exact .inl ⟨(fun k b h => by cases h), .inl ⟨40, by decide, rfl, (.pointer (some ⟨xb, 0, none⟩)), W, (by simp [go_sem, Act.eval, f1, c1]), rfl, hJ⟩⟩
      · replace ho := op_at ho (by rfl)
        subst ho
        have d40 : a.tmps.getD 56 undef = (.pointer (some ⟨xb, 0, none⟩)) := by have h1 := hF 40 (by decide) (hr 40 (by kernel_rfl)); exact h1.2.trans h1.1
        exact .inl ⟨(fun k b h => by cases h), .inl ⟨41, by decide, rfl, (.pointer (some ⟨xb, 0, none⟩)), W, (by simp [go_sem, Act.eval, d40]), rfl, hJ⟩⟩
      · replace ho := op_at ho (by rfl)
        subst ho
        have d41 : a.tmps.getD 57 undef = (.pointer (some ⟨xb, 0, none⟩)) := by have h1 := hF 41 (by decide) (hr 41 (by kernel_rfl)); exact h1.2.trans h1.1
        exact .inl ⟨(fun k b h => by cases h), .inl ⟨42, by decide, rfl, (.pointer (some ⟨xb, 10, none⟩)), W, (by simp [go_sem, Act.eval, d41]), rfl, hJ⟩⟩
      · replace ho := op_at ho (by rfl)
        subst ho
        have d42 : a.tmps.getD 58 undef = (.pointer (some ⟨xb, 10, none⟩)) := by have h1 := hF 42 (by decide) (hr 42 (by kernel_rfl)); exact h1.2.trans h1.1
        refine .inl ⟨(fun k b h => by cases h), .inr (.inr ⟨43, by decide, rfl, 63, #[(.pointer (some ⟨xb, 10, none⟩))], W, (by simp [go_sem, Act.eval, d42]), ?_⟩)⟩
        refine (callsIn_wide.2 (signed_any _ W)).mono ?_
        rintro e W' ⟨rfl, hBe⟩
        exact ⟨_, rfl, rfl, hJ.below hBe⟩
      · replace ho := op_at ho (by rfl)
        subst ho
        have d3 : a.tmps.getD 19 undef = (.agg #[.int .i64 3, .pointer none, .pointer none, .pointer (some ⟨xb, 0, none⟩), .pointer none]) := by have h1 := hF 3 (by decide) (hr 3 (by kernel_rfl)); exact h1.2.trans h1.1
        have d7 : a.tmps.getD 23 undef = (.agg #[.int .i64 1, .pointer (some ⟨xb, 1, none⟩), .pointer none, .pointer none, .pointer none]) := by have h1 := hF 7 (by decide) (hr 7 (by kernel_rfl)); exact h1.2.trans h1.1
        have d11 : a.tmps.getD 27 undef = (.agg #[.int .i64 1, .pointer none, .pointer (some ⟨xb, 2, none⟩), .pointer none, .pointer none]) := by have h1 := hF 11 (by decide) (hr 11 (by kernel_rfl)); exact h1.2.trans h1.1
        have d15 : a.tmps.getD 31 undef = (.agg #[.int .i64 4, .pointer none, .pointer none, .pointer none, .pointer (some ⟨xb, 3, none⟩)]) := by have h1 := hF 15 (by decide) (hr 15 (by kernel_rfl)); exact h1.2.trans h1.1
        have d19 : a.tmps.getD 35 undef = (.agg #[.int .i64 1, .pointer none, .pointer (some ⟨xb, 4, none⟩), .pointer none, .pointer none]) := by have h1 := hF 19 (by decide) (hr 19 (by kernel_rfl)); exact h1.2.trans h1.1
        have d23 : a.tmps.getD 39 undef = (.agg #[.int .i64 1, .pointer (some ⟨xb, 5, none⟩), .pointer none, .pointer none, .pointer none]) := by have h1 := hF 23 (by decide) (hr 23 (by kernel_rfl)); exact h1.2.trans h1.1
        have d27 : a.tmps.getD 43 undef = (.agg #[.int .i64 1, .pointer (some ⟨xb, 6, none⟩), .pointer none, .pointer none, .pointer none]) := by have h1 := hF 27 (by decide) (hr 27 (by kernel_rfl)); exact h1.2.trans h1.1
        have d31 : a.tmps.getD 47 undef = (.agg #[.int .i64 1, .pointer none, .pointer (some ⟨xb, 7, none⟩), .pointer none, .pointer none]) := by have h1 := hF 31 (by decide) (hr 31 (by kernel_rfl)); exact h1.2.trans h1.1
        have d35 : a.tmps.getD 51 undef = (.agg #[.int .i64 2, .pointer (some ⟨xb, 8, none⟩), .pointer none, .pointer none, .pointer none]) := by have h1 := hF 35 (by decide) (hr 35 (by kernel_rfl)); exact h1.2.trans h1.1
        have d39 : a.tmps.getD 55 undef = (.agg #[.int .i64 4, .pointer none, .pointer none, .pointer none, .pointer (some ⟨xb, 9, none⟩)]) := by have h1 := hF 39 (by decide) (hr 39 (by kernel_rfl)); exact h1.2.trans h1.1
        have d43 : a.tmps.getD 59 undef = (.agg #[.int .i64 2, .pointer (some ⟨xb, 10, none⟩), .pointer none, .pointer none, .pointer none]) := by have h1 := hF 43 (by decide) (hr 43 (by kernel_rfl)); exact h1.2.trans h1.1
        rw [hdi] at hJ
        exact .inl ⟨(fun k b h => by cases h), .inl ⟨44, by decide, rfl, .slice (some ⟨W.heap.size, 0, none⟩) 11 11, W.alloc (.cells (item1C xb) 106), (exec_buildSlice _ _ _ rfl _ (by simp only [List.map_toArray, List.map_cons, List.map_nil, Act.eval, d3, d7, d11, d15, d19, d23, d27, d31, d35, d39, d43]) _ _ (build_item1 xb W)), ⟨_, rfl⟩, hJ.builds rfl⟩⟩
      · replace ho := op_at ho (by rfl)
        subst ho
        obtain ⟨g44, e44⟩ := hF 44 (by decide) (hr 44 (by kernel_rfl))
        replace e44 : a.tmps.getD 60 undef = vs 44 := e44
        replace g44 : (fun zv => ∃ g, zv = .slice (some ⟨g, 0, none⟩) 11 11) (vs 44) := g44
        obtain ⟨g, hg⟩ := g44
        have e44b := e44
        rw [hg] at e44b
        have e44c : d 44 = true := hr 44 (by kernel_rfl)
        exact .inl ⟨(fun k b h => by cases h), .inl ⟨45, by decide, rfl, .slice (some ⟨g, 0, none⟩) 11 11, W, (by simp [go_sem, Act.eval, e44b]), ⟨_, rfl⟩, ⟨hJ.low, fun _ => e44c, hJ.row, fun _ => hg.symm⟩⟩⟩
    case finy =>
      intro d vs Wy hall hJ hF
      have h0 : vs 0 = (.pointer (some ⟨xb, 0, none⟩)) := hF 0 (by decide)
      have h1 : vs 1 = (.pointer (some ⟨xb, 0, none⟩)) := hF 1 (by decide)
      have h2 : vs 2 = (.pointer (some ⟨xb, 0, none⟩)) := hF 2 (by decide)
      have h3 : vs 3 = (.agg #[.int .i64 3, .pointer none, .pointer none, .pointer (some ⟨xb, 0, none⟩), .pointer none]) := hF 3 (by decide)
      have h4 : vs 4 = (.pointer (some ⟨xb, 0, none⟩)) := hF 4 (by decide)
      have h5 : vs 5 = (.pointer (some ⟨xb, 0, none⟩)) := hF 5 (by decide)
      have h6 : vs 6 = (.pointer (some ⟨xb, 1, none⟩)) := hF 6 (by decide)
      have h7 : vs 7 = (.agg #[.int .i64 1, .pointer (some ⟨xb, 1, none⟩), .pointer none, .pointer none, .pointer none]) := hF 7 (by decide)
      have h8 : vs 8 = (.pointer (some ⟨xb, 0, none⟩)) := hF 8 (by decide)
      have h9 : vs 9 = (.pointer (some ⟨xb, 0, none⟩)) := hF 9 (by decide)
      have h10 : vs 10 = (.pointer (some ⟨xb, 2, none⟩)) := hF 10 (by decide)
      have h11 : vs 11 = (.agg #[.int .i64 1, .pointer none, .pointer (some ⟨xb, 2, none⟩), .pointer none, .pointer none]) := hF 11 (by decide)
      have h12 : vs 12 = (.pointer (some ⟨xb, 0, none⟩)) := hF 12 (by decide)
      have h13 : vs 13 = (.pointer (some ⟨xb, 0, none⟩)) := hF 13 (by decide)
      have h14 : vs 14 = (.pointer (some ⟨xb, 3, none⟩)) := hF 14 (by decide)
      have h15 : vs 15 = (.agg #[.int .i64 4, .pointer none, .pointer none, .pointer none, .pointer (some ⟨xb, 3, none⟩)]) := hF 15 (by decide)
      have h16 : vs 16 = (.pointer (some ⟨xb, 0, none⟩)) := hF 16 (by decide)
      have h17 : vs 17 = (.pointer (some ⟨xb, 0, none⟩)) := hF 17 (by decide)
      have h18 : vs 18 = (.pointer (some ⟨xb, 4, none⟩)) := hF 18 (by decide)
      have h19 : vs 19 = (.agg #[.int .i64 1, .pointer none, .pointer (some ⟨xb, 4, none⟩), .pointer none, .pointer none]) := hF 19 (by decide)
      have h20 : vs 20 = (.pointer (some ⟨xb, 0, none⟩)) := hF 20 (by decide)
      have h21 : vs 21 = (.pointer (some ⟨xb, 0, none⟩)) := hF 21 (by decide)
      have h22 : vs 22 = (.pointer (some ⟨xb, 5, none⟩)) := hF 22 (by decide)
      have h23 : vs 23 = (.agg #[.int .i64 1, .pointer (some ⟨xb, 5, none⟩), .pointer none, .pointer none, .pointer none]) := hF 23 (by decide)
      have h24 : vs 24 = (.pointer (some ⟨xb, 6, none⟩)) := hF 24 (by decide)
      have h25 : vs 25 = (.pointer (some ⟨xb, 6, none⟩)) := hF 25 (by decide)
      have h26 : vs 26 = (.pointer (some ⟨xb, 6, none⟩)) := hF 26 (by decide)
      have h27 : vs 27 = (.agg #[.int .i64 1, .pointer (some ⟨xb, 6, none⟩), .pointer none, .pointer none, .pointer none]) := hF 27 (by decide)
      have h28 : vs 28 = (.pointer (some ⟨xb, 6, none⟩)) := hF 28 (by decide)
      have h29 : vs 29 = (.pointer (some ⟨xb, 6, none⟩)) := hF 29 (by decide)
      have h30 : vs 30 = (.pointer (some ⟨xb, 7, none⟩)) := hF 30 (by decide)
      have h31 : vs 31 = (.agg #[.int .i64 1, .pointer none, .pointer (some ⟨xb, 7, none⟩), .pointer none, .pointer none]) := hF 31 (by decide)
      have h32 : vs 32 = (.pointer (some ⟨xb, 6, none⟩)) := hF 32 (by decide)
      have h33 : vs 33 = (.pointer (some ⟨xb, 6, none⟩)) := hF 33 (by decide)
      have h34 : vs 34 = (.pointer (some ⟨xb, 8, none⟩)) := hF 34 (by decide)
      have h35 : vs 35 = (.agg #[.int .i64 2, .pointer (some ⟨xb, 8, none⟩), .pointer none, .pointer none, .pointer none]) := hF 35 (by decide)
      have h36 : vs 36 = (.pointer (some ⟨xb, 0, none⟩)) := hF 36 (by decide)
      have h37 : vs 37 = (.pointer (some ⟨xb, 0, none⟩)) := hF 37 (by decide)
      have h38 : vs 38 = (.pointer (some ⟨xb, 9, none⟩)) := hF 38 (by decide)
      have h39 : vs 39 = (.agg #[.int .i64 4, .pointer none, .pointer none, .pointer none, .pointer (some ⟨xb, 9, none⟩)]) := hF 39 (by decide)
      have h40 : vs 40 = (.pointer (some ⟨xb, 0, none⟩)) := hF 40 (by decide)
      have h41 : vs 41 = (.pointer (some ⟨xb, 0, none⟩)) := hF 41 (by decide)
      have h42 : vs 42 = (.pointer (some ⟨xb, 10, none⟩)) := hF 42 (by decide)
      have h43 : vs 43 = (.agg #[.int .i64 2, .pointer (some ⟨xb, 10, none⟩), .pointer none, .pointer none, .pointer none]) := hF 43 (by decide)
      have h44 : (fun zv => ∃ g, zv = .slice (some ⟨g, 0, none⟩) 11 11) (vs 44) := hF 44 (by decide)
      have h45 : (fun zv => ∃ g, zv = .slice (some ⟨g, 0, none⟩) 11 11) (vs 45) := hF 45 (by decide)
      clear hF
      have hans := hJ.ans (hall 45 (by decide))
      obtain ⟨g, hg, hgw, hrow⟩ := hJ.row (hall 44 (by decide))
      rw [hg] at hans
      have OWN := Lib.hid (owns_built hrow hgw)
      have LB := Lib.hid hJ.low
      clear hJ hall hrow h44 h45
      show (_ : Exit → Act → World → Prop) Exit.normal (puts _ vs 46 _) Wy
      simp only [puts, h0, h1, h2, h3, h4, h5, h6, h7, h8, h9, h10, h11, h12, h13, h14, h15, h16, h17, h18, h19, h20, h21, h22, h23, h24, h25, h26, h27, h28, h29, h30, h31, h32, h33, h34, h35, h36, h37, h38, h39, h40, h41, h42, h43, List.getD_cons_zero, List.getD_cons_succ]
      clear h0 h1 h2 h3 h4 h5 h6 h7 h8 h9 h10 h11 h12 h13 h14 h15 h16 h17 h18 h19 h20 h21 h22 h23 h24 h25 h26 h27 h28 h29 h30 h31 h32 h33 h34 h35 h36 h37 h38 h39 h40 h41 h42 h43
      simp only [hg, hans]
      go_simp
      gi_wp2_with (fail)
      refine wpIn_flowM (F0 := Fence.wide) (n0 := m) (fun _ => trivial) (fun h => by cases h) (by kernel_rfl) (by kernel_rfl) 9 9 (by kernel_rfl) (fun j => ([0, 1, 2, 3, 4, 5, 6, 7, 8] : List Nat).getD j 0) (fun j => ([61, 62, 63, 64, 65, 66, 67, 68, 69] : List Nat).getD j 0) (by kernel_rfl) (by kernel_rfl) (by kernel_rfl) (by kernel_rfl) (by kernel_rfl) (by kernel_rfl) (by kernel_rfl) (fun j zv => ([(fun zv => zv = (.pointer (some ⟨xb, 0, none⟩))), (fun zv => zv = (.pointer (some ⟨xb, 0, none⟩))), (fun zv => zv = (.pointer (some ⟨xb, 11, none⟩))), (fun zv => zv = (.pointer (some ⟨xb, 0, none⟩))), (fun zv => zv = (.pointer (some ⟨xb, 0, none⟩))), (fun zv => zv = (.pointer (some ⟨xb, 15, none⟩))), (fun zv => ∃ g, zv = .slice (some ⟨g, 0, none⟩) 2 2), (fun zv => zv = (.int .i64 2)), (fun zv => zv = (.int .i64 0))] : List (Value → Prop)).getD j (fun _ => True) zv) (fun d vs W => IK w xb (.slice (some ⟨g, 0, none⟩) 11 11) (d 6) (vs 6) W) ?h0x ?stepx ?finx
      case h0x => exact fun vs => ⟨LB.out.drew, OWN.out, (fun e => by cases e)⟩
      case stepx =>
        intro i o a W d vs hi ho hdi hJ hf hr hF
        replace hi : i < 9 := hi
        rcases (show i = 0 ∨ i = 1 ∨ i = 2 ∨ i = 3 ∨ i = 4 ∨ i = 5 ∨ i = 6 ∨ i = 7 ∨ i = 8 by omega) with rfl | rfl | rfl | rfl | rfl | rfl | rfl | rfl | rfl
        · replace ho := op_at ho (by rfl)
          subst ho
          have f1 : a.tmps.getD 1 undef = (.pointer (some ⟨q, 0, none⟩)) := hf 1 (by kernel_rfl)
          have c1 := (hJ.low.cell (p := ⟨q, 0, none⟩) hqs).trans C1.out
          exact .inl ⟨(fun k b h => by cases h), .inl ⟨0, by decide, rfl, (.pointer (some ⟨xb, 0, none⟩)), W, (by simp [go_sem, Act.eval, f1, c1]), rfl, hJ⟩⟩
        · replace ho := op_at ho (by rfl)
          subst ho
          have d0 : a.tmps.getD 61 undef = (.pointer (some ⟨xb, 0, none⟩)) := by have h1 := hF 0 (by decide) (hr 0 (by kernel_rfl)); exact h1.2.trans h1.1
          exact .inl ⟨(fun k b h => by cases h), .inl ⟨1, by decide, rfl, (.pointer (some ⟨xb, 0, none⟩)), W, (by simp [go_sem, Act.eval, d0]), rfl, hJ⟩⟩
        · replace ho := op_at ho (by rfl)
          subst ho
          have d1 : a.tmps.getD 62 undef = (.pointer (some ⟨xb, 0, none⟩)) := by have h1 := hF 1 (by decide) (hr 1 (by kernel_rfl)); exact h1.2.trans h1.1
          exact .inl ⟨(fun k b h => by cases h), .inl ⟨2, by decide, rfl, (.pointer (some ⟨xb, 11, none⟩)), W, (by simp [go_sem, Act.eval, d1]), rfl, hJ⟩⟩
        · replace ho := op_at ho (by rfl)
          subst ho
          have f1 : a.tmps.getD 1 undef = (.pointer (some ⟨q, 0, none⟩)) := hf 1 (by kernel_rfl)
          have c1 := (hJ.low.cell (p := ⟨q, 0, none⟩) hqs).trans C1.out
          exact .inl ⟨(fun k b h => by cases h), .inl ⟨3, by decide, rfl, (.pointer (some ⟨xb, 0, none⟩)), W, (by simp [go_sem, Act.eval, f1, c1]), rfl, hJ⟩⟩
        · replace ho := op_at ho (by rfl)
          subst ho
          have d3 : a.tmps.getD 64 undef = (.pointer (some ⟨xb, 0, none⟩)) := by have h1 := hF 3 (by decide) (hr 3 (by kernel_rfl)); exact h1.2.trans h1.1
          exact .inl ⟨(fun k b h => by cases h), .inl ⟨4, by decide, rfl, (.pointer (some ⟨xb, 0, none⟩)), W, (by simp [go_sem, Act.eval, d3]), rfl, hJ⟩⟩
        · replace ho := op_at ho (by rfl)
          subst ho
          have d4 : a.tmps.getD 65 undef = (.pointer (some ⟨xb, 0, none⟩)) := by have h1 := hF 4 (by decide) (hr 4 (by kernel_rfl)); exact h1.2.trans h1.1
          exact .inl ⟨(fun k b h => by cases h), .inl ⟨5, by decide, rfl, (.pointer (some ⟨xb, 15, none⟩)), W, (by simp [go_sem, Act.eval, d4]), rfl, hJ⟩⟩
        · replace ho := op_at ho (by rfl)
          subst ho
          have d2 : a.tmps.getD 63 undef = (.pointer (some ⟨xb, 11, none⟩)) := by have h1 := hF 2 (by decide) (hr 2 (by kernel_rfl)); exact h1.2.trans h1.1
          have d5 : a.tmps.getD 66 undef = (.pointer (some ⟨xb, 15, none⟩)) := by have h1 := hF 5 (by decide) (hr 5 (by kernel_rfl)); exact h1.2.trans h1.1
          rw [hdi] at hJ
          exact .inl ⟨(fun k b h => by cases h), .inl ⟨6, by decide, rfl, .slice (some ⟨W.heap.size, 0, none⟩) 2 2, W.alloc (.cells #[(.pointer (some ⟨xb, 11, none⟩)), (.pointer (some ⟨xb, 15, none⟩))] 116), (exec_buildSlice _ _ _ rfl _ (by simp only [List.map_toArray, List.map_cons, List.map_nil, Act.eval, d2, d5]) _ _ (build_two xb W)), ⟨_, rfl⟩, hJ.builds rfl⟩⟩
        · replace ho := op_at ho (by rfl)
          subst ho
          obtain ⟨g6, e6⟩ := hF 6 (by decide) (hr 6 (by kernel_rfl))
          replace e6 : a.tmps.getD 67 undef = vs 6 := e6
          replace g6 : (fun zv => ∃ g, zv = .slice (some ⟨g, 0, none⟩) 2 2) (vs 6) := g6
          obtain ⟨g2, hg2⟩ := g6
          rw [hg2] at e6
          exact .inl ⟨(fun k b h => by cases h), .inl ⟨7, by decide, rfl, (.int .i64 2), W, (by simp [go_sem, Act.eval, e6]), rfl, hJ⟩⟩
        · replace ho := op_at ho (by rfl)
          subst ho
          exact .inl ⟨(fun k b h => by cases h), .inl ⟨8, by decide, rfl, (.int .i64 0), W, (by simp [go_sem, Act.eval]), rfl, hJ⟩⟩
      case finx =>
        intro d vs Wx hall hJ hF
        have h0 : vs 0 = (.pointer (some ⟨xb, 0, none⟩)) := hF 0 (by decide)
        have h1 : vs 1 = (.pointer (some ⟨xb, 0, none⟩)) := hF 1 (by decide)
        have h2 : vs 2 = (.pointer (some ⟨xb, 11, none⟩)) := hF 2 (by decide)
        have h3 : vs 3 = (.pointer (some ⟨xb, 0, none⟩)) := hF 3 (by decide)
        have h4 : vs 4 = (.pointer (some ⟨xb, 0, none⟩)) := hF 4 (by decide)
        have h5 : vs 5 = (.pointer (some ⟨xb, 15, none⟩)) := hF 5 (by decide)
        have h6 : (fun zv => ∃ g, zv = .slice (some ⟨g, 0, none⟩) 2 2) (vs 6) := hF 6 (by decide)
        have h7 : vs 7 = (.int .i64 2) := hF 7 (by decide)
        have h8 : vs 8 = (.int .i64 0) := hF 8 (by decide)
        clear hF
        obtain ⟨g2, hg2, hrow2⟩ := hJ.row (hall 6 (by decide))
        have OWN2 := Lib.hid hJ.own
        have LB2 := Lib.hid hJ.low
        have ROW2 := Lib.hid hrow2
        clear hJ hall hrow2 h6
        show (_ : Exit → Act → World → Prop) Exit.normal (puts _ vs 9 _) Wx
        simp only [puts, h0, h1, h2, h3, h4, h5, h7, h8, List.getD_cons_zero, List.getD_cons_succ]
        clear h0 h1 h2 h3 h4 h5 h7 h8
        simp only [hg2]
        clear hg2 hans hg LB OWN HB1
        go_simp
        gi_wp2_with (fail)
        gi_loopw [5, 69] (fun v i wr => ∃ (k eo g' cap : Nat) (ps : List Plc), k ≤ 2 ∧ i = .int .i64 (k : Int) ∧ v = .slice (some ⟨g', 0, none⟩) eo cap ∧ Hid (eo = 11 + 4 * k ∧ ps = (itemP xb).take eo) ∧ Hid (OwnP wr w.heap.size v ps) ∧ Hid (Below w.heap.size w wr) ∧ Hid (wr.heap[g2]? = some (.cells #[(.pointer (some ⟨xb, 11, none⟩)), (.pointer (some ⟨xb, 15, none⟩))] 116 (0, 0)))) (fun _ i _ => 2 - (intOf i).toNat)
        case atStart => exact ⟨0, 11, g, 11, item1P xb, by omega, rfl, rfl, ⟨rfl, rfl⟩, OWN2, LB2, ROW2⟩
        case round =>
          obtain ⟨k, eo, g', cap, ps, hk, rfl, rfl, HE, OW, LW, RW⟩ := hrel
          have hpl : ps.length = eo := by
            obtain ⟨h1, h2⟩ := HE.out
            rw [h2, List.length_take]
            have : (itemP xb).length = 19 := rfl
            omega
          have HPS : Hid (eo ≤ 19 ∧ ps.length = eo) := by
            obtain ⟨h1, h2⟩ := HE.out
            exact ⟨by omega, hpl⟩
          by_cases hlt : k < 2
          · have hck : wr.cell? ⟨g2, k, none⟩ = some (.pointer (some ⟨xb, eo, none⟩)) := by
              rw [cell_of_row _ _ _ _ _ _ RW.out, HE.out.1]
              rcases (show k = 0 ∨ k = 1 by omega) with rfl | rfl <;> rfl
            have hkn : 0 ≤ (k : Int) ∧ (k : Int) < 2 := by omega
            clear hpl
            gi_wp2_with (fail)
            refine wpIn_flowM2 (F0 := Fence.wide) (n0 := m) (fun _ => trivial) (fun h => by cases h) (by kernel_rfl) (by kernel_rfl) 20 20 (by kernel_rfl) (fun j => ([0, 1, 2, 3, 4, 5, 6, 7, 8, 9, 10, 11, 12, 13, 14, 15, 16, 17, 18, 19] : List Nat).getD j 0) (fun j => ([73, 74, 75, 76, 77, 78, 79, 80, 81, 82, 83, 84, 85, 86, 87, 88, 89, 90, 91, 5] : List Nat).getD j 0) (by kernel_rfl) (by kernel_rfl) (by kernel_rfl) (by kernel_rfl) (by kernel_rfl) (by kernel_rfl) (by kernel_rfl) (fun j zv => ([(fun zv => zv = (.slice (some ⟨g', 0, none⟩) eo cap)), (fun zv => zv = (.pointer (some ⟨xb, eo, none⟩))), (fun zv => zv = (.pointer (some ⟨xb, eo, none⟩))), (fun zv => zv = (.pointer (some ⟨xb, eo, none⟩))), (fun zv => zv = (.agg #[.int .i64 4, .pointer none, .pointer none, .pointer none, .pointer (some ⟨xb, eo, none⟩)])), (fun zv => zv = (.pointer (some ⟨xb, eo, none⟩))), (fun zv => zv = (.pointer (some ⟨xb, eo, none⟩))), (fun zv => zv = (.pointer (some ⟨xb, eo + 1, none⟩))), (fun zv => zv = (.agg #[.int .i64 2, .pointer (some ⟨xb, eo + 1, none⟩), .pointer none, .pointer none, .pointer none])), (fun zv => zv = (.pointer (some ⟨xb, eo, none⟩))), (fun zv => zv = (.pointer (some ⟨xb, eo, none⟩))), (fun zv => zv = (.pointer (some ⟨xb, eo + 2, none⟩))), (fun zv => zv = (.agg #[.int .i64 1, .pointer none, .pointer (some ⟨xb, eo + 2, none⟩), .pointer none, .pointer none])), (fun zv => zv = (.pointer (some ⟨xb, eo, none⟩))), (fun zv => zv = (.pointer (some ⟨xb, eo, none⟩))), (fun zv => zv = (.pointer (some ⟨xb, eo + 3, none⟩))), (fun zv => zv = (.agg #[.int .i64 1, .pointer (some ⟨xb, eo + 3, none⟩), .pointer none, .pointer none, .pointer none])), (fun zv => ∃ g, zv = .slice (some ⟨g, 0, none⟩) 4 4), (fun zv => ∃ g cap, zv = .slice (some ⟨g, 0, none⟩) (eo + 4) cap), (fun zv => ∃ g cap, zv = .slice (some ⟨g, 0, none⟩) (eo + 4) cap)] : List (Value → Prop)).getD j (fun _ => True) zv) (fun d vs W => AJ wr w.heap.size g2 (.pointer (some ⟨xb, 11, none⟩)) (.pointer (some ⟨xb, 15, none⟩)) xb eo (.slice (some ⟨g', 0, none⟩) eo cap) ps (d 17) (d 18) (vs 17) (vs 18) W ∧ (d 18 = true → d 0 = true) ∧ (d 19 = true → d 18 = true ∧ vs 19 = vs 18)) ?h0v ?stepv ?finv
            case h0v => exact fun vs => ⟨AJ.start (by have := LW.out.size; omega) OW.out RW.out, (fun e => by cases e), (fun e => by cases e)⟩
            case stepv =>
              intro i o a W d vs hi ho hdi hJ hf hr hF hz
              replace hi : i < 20 := hi
              rcases (show i = 0 ∨ i = 1 ∨ i = 2 ∨ i = 3 ∨ i = 4 ∨ i = 5 ∨ i = 6 ∨ i = 7 ∨ i = 8 ∨ i = 9 ∨ i = 10 ∨ i = 11 ∨ i = 12 ∨ i = 13 ∨ i = 14 ∨ i = 15 ∨ i = 16 ∨ i = 17 ∨ i = 18 ∨ i = 19 by omega) with rfl | rfl | rfl | rfl | rfl | rfl | rfl | rfl | rfl | rfl | rfl | rfl | rfl | rfl | rfl | rfl | rfl | rfl | rfl | rfl
              · replace ho := op_at ho (by rfl)
                subst ho
                have f5 : a.tmps.getD 5 undef = (.slice (some ⟨g', 0, none⟩) eo cap) := hz 19 (by decide) (show d 19 = false from by cases h : d 19 with | false => rfl | true => have h1 := hJ.2.1 (hJ.2.2 h).1; rw [hdi] at h1; cases h1)
                exact .inl ⟨(fun k b h => by cases h), .inl ⟨0, by decide, rfl, (.slice (some ⟨g', 0, none⟩) eo cap), W, (by simp [go_sem, Act.eval, f5]), rfl, ⟨hJ.1, fun _ => rfl, hJ.2.2⟩⟩⟩
              · replace ho := op_at ho (by rfl)
                subst ho
                have f7 : a.tmps.getD 7 undef = (.pointer (some ⟨xb, eo, none⟩)) := hf 7 (by kernel_rfl)
                exact .inl ⟨(fun k b h => by cases h), .inl ⟨1, by decide, rfl, (.pointer (some ⟨xb, eo, none⟩)), W, (by simp [go_sem, Act.eval, f7]), rfl, hJ⟩⟩
              · replace ho := op_at ho (by rfl)
                subst ho
                have d1 : a.tmps.getD 74 undef = (.pointer (some ⟨xb, eo, none⟩)) := by have h1 := hF 1 (by decide) (hr 1 (by kernel_rfl)); exact h1.2.trans h1.1
                exact .inl ⟨(fun k b h => by cases h), .inl ⟨2, by decide, rfl, (.pointer (some ⟨xb, eo, none⟩)), W, (by simp [go_sem, Act.eval, d1]), rfl, hJ⟩⟩
              · replace ho := op_at ho (by rfl)
                subst ho
                have d2 : a.tmps.getD 75 undef = (.pointer (some ⟨xb, eo, none⟩)) := by have h1 := hF 2 (by decide) (hr 2 (by kernel_rfl)); exact h1.2.trans h1.1
                exact .inl ⟨(fun k b h => by cases h), .inl ⟨3, by decide, rfl, (.pointer (some ⟨xb, eo, none⟩)), W, (by simp [go_sem, Act.eval, d2]), rfl, hJ⟩⟩
              · replace ho := op_at ho (by rfl)
                subst ho
                have d3 : a.tmps.getD 76 undef = (.pointer (some ⟨xb, eo, none⟩)) := by have h1 := hF 3 (by decide) (hr 3 (by kernel_rfl)); exact h1.2.trans h1.1
                refine .inl ⟨(fun k b h => by cases h), .inr (.inr ⟨4, by decide, rfl, 62, #[(.pointer (some ⟨xb, eo, none⟩))], W, (by simp [go_sem, Act.eval, d3]), ?_⟩)⟩
                refine (callsIn_wide.2 (truth_any _ W)).mono ?_
                rintro e W' ⟨rfl, hBe⟩
                exact ⟨_, rfl, rfl, ⟨hJ.1.below hBe, hJ.2⟩⟩
              · replace ho := op_at ho (by rfl)
                subst ho
                have f7 : a.tmps.getD 7 undef = (.pointer (some ⟨xb, eo, none⟩)) := hf 7 (by kernel_rfl)
                exact .inl ⟨(fun k b h => by cases h), .inl ⟨5, by decide, rfl, (.pointer (some ⟨xb, eo, none⟩)), W, (by simp [go_sem, Act.eval, f7]), rfl, hJ⟩⟩
              · replace ho := op_at ho (by rfl)
                subst ho
                have d5 : a.tmps.getD 78 undef = (.pointer (some ⟨xb, eo, none⟩)) := by have h1 := hF 5 (by decide) (hr 5 (by kernel_rfl)); exact h1.2.trans h1.1
                exact .inl ⟨(fun k b h => by cases h), .inl ⟨6, by decide, rfl, (.pointer (some ⟨xb, eo, none⟩)), W, (by simp [go_sem, Act.eval, d5]), rfl, hJ⟩⟩
              · replace ho := op_at ho (by rfl)
                subst ho
                have d6 : a.tmps.getD 79 undef = (.pointer (some ⟨xb, eo, none⟩)) := by have h1 := hF 6 (by decide) (hr 6 (by kernel_rfl)); exact h1.2.trans h1.1
                exact .inl ⟨(fun k b h => by cases h), .inl ⟨7, by decide, rfl, (.pointer (some ⟨xb, eo + 1, none⟩)), W, (by simp [go_sem, Act.eval, d6]), rfl, hJ⟩⟩
              · replace ho := op_at ho (by rfl)
                subst ho
                have d7 : a.tmps.getD 80 undef = (.pointer (some ⟨xb, eo + 1, none⟩)) := by have h1 := hF 7 (by decide) (hr 7 (by kernel_rfl)); exact h1.2.trans h1.1
                refine .inl ⟨(fun k b h => by cases h), .inr (.inr ⟨8, by decide, rfl, 63, #[(.pointer (some ⟨xb, eo + 1, none⟩))], W, (by simp [go_sem, Act.eval, d7]), ?_⟩)⟩
                refine (callsIn_wide.2 (signed_any _ W)).mono ?_
                rintro e W' ⟨rfl, hBe⟩
                exact ⟨_, rfl, rfl, ⟨hJ.1.below hBe, hJ.2⟩⟩
              · replace ho := op_at ho (by rfl)
                subst ho
                have f7 : a.tmps.getD 7 undef = (.pointer (some ⟨xb, eo, none⟩)) := hf 7 (by kernel_rfl)
                exact .inl ⟨(fun k b h => by cases h), .inl ⟨9, by decide, rfl, (.pointer (some ⟨xb, eo, none⟩)), W, (by simp [go_sem, Act.eval, f7]), rfl, hJ⟩⟩
              · replace ho := op_at ho (by rfl)
                subst ho
                have d9 : a.tmps.getD 82 undef = (.pointer (some ⟨xb, eo, none⟩)) := by have h1 := hF 9 (by decide) (hr 9 (by kernel_rfl)); exact h1.2.trans h1.1
                exact .inl ⟨(fun k b h => by cases h), .inl ⟨10, by decide, rfl, (.pointer (some ⟨xb, eo, none⟩)), W, (by simp [go_sem, Act.eval, d9]), rfl, hJ⟩⟩
              · replace ho := op_at ho (by rfl)
                subst ho
                have d10 : a.tmps.getD 83 undef = (.pointer (some ⟨xb, eo, none⟩)) := by have h1 := hF 10 (by decide) (hr 10 (by kernel_rfl)); exact h1.2.trans h1.1
                exact .inl ⟨(fun k b h => by cases h), .inl ⟨11, by decide, rfl, (.pointer (some ⟨xb, eo + 2, none⟩)), W, (by simp [go_sem, Act.eval, d10]), rfl, hJ⟩⟩
              · replace ho := op_at ho (by rfl)
                subst ho
                have d11 : a.tmps.getD 84 undef = (.pointer (some ⟨xb, eo + 2, none⟩)) := by have h1 := hF 11 (by decide) (hr 11 (by kernel_rfl)); exact h1.2.trans h1.1
                refine .inl ⟨(fun k b h => by cases h), .inr (.inr ⟨12, by decide, rfl, 59, #[(.pointer (some ⟨xb, eo + 2, none⟩))], W, (by simp [go_sem, Act.eval, d11]), ?_⟩)⟩
                refine (callsIn_wide.2 (small_any _ W)).mono ?_
                rintro e W' ⟨rfl, hBe⟩
                exact ⟨_, rfl, rfl, ⟨hJ.1.below hBe, hJ.2⟩⟩
              · replace ho := op_at ho (by rfl)
                subst ho
                have f7 : a.tmps.getD 7 undef = (.pointer (some ⟨xb, eo, none⟩)) := hf 7 (by kernel_rfl)
                exact .inl ⟨(fun k b h => by cases h), .inl ⟨13, by decide, rfl, (.pointer (some ⟨xb, eo, none⟩)), W, (by simp [go_sem, Act.eval, f7]), rfl, hJ⟩⟩
              · replace ho := op_at ho (by rfl)
                subst ho
                have d13 : a.tmps.getD 86 undef = (.pointer (some ⟨xb, eo, none⟩)) := by have h1 := hF 13 (by decide) (hr 13 (by kernel_rfl)); exact h1.2.trans h1.1
                exact .inl ⟨(fun k b h => by cases h), .inl ⟨14, by decide, rfl, (.pointer (some ⟨xb, eo, none⟩)), W, (by simp [go_sem, Act.eval, d13]), rfl, hJ⟩⟩
              · replace ho := op_at ho (by rfl)
                subst ho
                have d14 : a.tmps.getD 87 undef = (.pointer (some ⟨xb, eo, none⟩)) := by have h1 := hF 14 (by decide) (hr 14 (by kernel_rfl)); exact h1.2.trans h1.1
                exact .inl ⟨(fun k b h => by cases h), .inl ⟨15, by decide, rfl, (.pointer (some ⟨xb, eo + 3, none⟩)), W, (by simp [go_sem, Act.eval, d14]), rfl, hJ⟩⟩
              · replace ho := op_at ho (by rfl)
                subst ho
                have d15 : a.tmps.getD 88 undef = (.pointer (some ⟨xb, eo + 3, none⟩)) := by have h1 := hF 15 (by decide) (hr 15 (by kernel_rfl)); exact h1.2.trans h1.1
                refine .inl ⟨(fun k b h => by cases h), .inr (.inr ⟨16, by decide, rfl, 60, #[(.pointer (some ⟨xb, eo + 3, none⟩))], W, (by simp [go_sem, Act.eval, d15]), ?_⟩)⟩
                refine (callsIn_wide.2 (whole_any _ W)).mono ?_
                rintro e W' ⟨rfl, hBe⟩
                exact ⟨_, rfl, rfl, ⟨hJ.1.below hBe, hJ.2⟩⟩
              · replace ho := op_at ho (by rfl)
                subst ho
                have d4 : a.tmps.getD 77 undef = (.agg #[.int .i64 4, .pointer none, .pointer none, .pointer none, .pointer (some ⟨xb, eo, none⟩)]) := by have h1 := hF 4 (by decide) (hr 4 (by kernel_rfl)); exact h1.2.trans h1.1
                have d8 : a.tmps.getD 81 undef = (.agg #[.int .i64 2, .pointer (some ⟨xb, eo + 1, none⟩), .pointer none, .pointer none, .pointer none]) := by have h1 := hF 8 (by decide) (hr 8 (by kernel_rfl)); exact h1.2.trans h1.1
                have d12 : a.tmps.getD 85 undef = (.agg #[.int .i64 1, .pointer none, .pointer (some ⟨xb, eo + 2, none⟩), .pointer none, .pointer none]) := by have h1 := hF 12 (by decide) (hr 12 (by kernel_rfl)); exact h1.2.trans h1.1
                have d16 : a.tmps.getD 89 undef = (.agg #[.int .i64 1, .pointer (some ⟨xb, eo + 3, none⟩), .pointer none, .pointer none, .pointer none]) := by have h1 := hF 16 (by decide) (hr 16 (by kernel_rfl)); exact h1.2.trans h1.1
                rw [hdi] at hJ
                exact .inl ⟨(fun k b h => by cases h), .inl ⟨17, by decide, rfl, .slice (some ⟨W.heap.size, 0, none⟩) 4 4, W.alloc (.cells (extC xb eo) 106), (exec_buildSlice _ _ _ rfl _ (by simp only [List.map_toArray, List.map_cons, List.map_nil, Act.eval, d4, d8, d12, d16]) _ _ (build_ext xb eo W)), ⟨_, rfl⟩, ⟨hJ.1.builds rfl, hJ.2⟩⟩⟩
              · replace ho := op_at ho (by rfl)
                subst ho
                have d0 : a.tmps.getD 73 undef = (.slice (some ⟨g', 0, none⟩) eo cap) := by have h1 := hF 0 (by decide) (hr 0 (by kernel_rfl)); exact h1.2.trans h1.1
                obtain ⟨g17, e17⟩ := hF 17 (by decide) (hr 17 (by kernel_rfl))
                replace e17 : a.tmps.getD 90 undef = vs 17 := e17
                replace g17 : (fun zv => ∃ g, zv = .slice (some ⟨g, 0, none⟩) 4 4) (vs 17) := g17
                have e17b : d 17 = true := hr 17 (by kernel_rfl)
                have e0b : d 0 = true := hr 0 (by kernel_rfl)
                have h1 := hJ.1
                rw [e17b, hdi] at h1
                obtain ⟨g, hg, hgr⟩ := h1.lit rfl
                rw [hg] at e17
                obtain ⟨v', W', hrun, ho2, hg2, ⟨g9, cap9, hv9⟩, -⟩ := op_append_plc 73 90 a W w.heap.size (.slice (some ⟨g', 0, none⟩) eo cap) ps g xb eo d0 e17 (h1.own0 rfl) (hgr rfl) (by have := HPS.out; omega) (Nat.le_trans h1.bs h1.siz)
                rw [HPS.out.2] at hv9
                refine .inl ⟨(fun k b h => by cases h), .inl ⟨18, by decide, rfl, v', W', hrun _ rfl rfl, ⟨g9, cap9, hv9⟩, ?_, fun _ => e0b, fun h => ?_⟩⟩
                · show AJ _ _ _ _ _ _ _ _ _ (d 17) true (vs 17) v' W'
                  rw [e17b]; exact h1.appends ho2 hg2
                · have h2 := (hJ.2.2 h).1
                  rw [hdi] at h2; cases h2
              · replace ho := op_at ho (by rfl)
                subst ho
                obtain ⟨g18, e18⟩ := hF 18 (by decide) (hr 18 (by kernel_rfl))
                replace e18 : a.tmps.getD 91 undef = vs 18 := e18
                replace g18 : (fun zv => ∃ g cap, zv = .slice (some ⟨g, 0, none⟩) (eo + 4) cap) (vs 18) := g18
                obtain ⟨g9, cap9, h9⟩ := g18
                have e18b := e18
                rw [h9] at e18b
                have e18c : d 18 = true := hr 18 (by kernel_rfl)
                exact .inl ⟨(fun k b h => by cases h), .inl ⟨19, by decide, rfl, .slice (some ⟨g9, 0, none⟩) (eo + 4) cap9, W, (by simp [go_sem, Act.eval, e18b]), ⟨_, _, rfl⟩, ⟨hJ.1, hJ.2.1, fun _ => ⟨e18c, h9.symm⟩⟩⟩⟩
            case finv =>
              intro d vs Wv hall hJ hF
              have h0 : vs 0 = (.slice (some ⟨g', 0, none⟩) eo cap) := hF 0 (by decide)
              have h1 : vs 1 = (.pointer (some ⟨xb, eo, none⟩)) := hF 1 (by decide)
              have h2 : vs 2 = (.pointer (some ⟨xb, eo, none⟩)) := hF 2 (by decide)
              have h3 : vs 3 = (.pointer (some ⟨xb, eo, none⟩)) := hF 3 (by decide)
              have h4 : vs 4 = (.agg #[.int .i64 4, .pointer none, .pointer none, .pointer none, .pointer (some ⟨xb, eo, none⟩)]) := hF 4 (by decide)
              have h5 : vs 5 = (.pointer (some ⟨xb, eo, none⟩)) := hF 5 (by decide)
              have h6 : vs 6 = (.pointer (some ⟨xb, eo, none⟩)) := hF 6 (by decide)
              have h7 : vs 7 = (.pointer (some ⟨xb, eo + 1, none⟩)) := hF 7 (by decide)
              have h8 : vs 8 = (.agg #[.int .i64 2, .pointer (some ⟨xb, eo + 1, none⟩), .pointer none, .pointer none, .pointer none]) := hF 8 (by decide)
              have h9 : vs 9 = (.pointer (some ⟨xb, eo, none⟩)) := hF 9 (by decide)
              have h10 : vs 10 = (.pointer (some ⟨xb, eo, none⟩)) := hF 10 (by decide)
              have h11 : vs 11 = (.pointer (some ⟨xb, eo + 2, none⟩)) := hF 11 (by decide)
              have h12 : vs 12 = (.agg #[.int .i64 1, .pointer none, .pointer (some ⟨xb, eo + 2, none⟩), .pointer none, .pointer none]) := hF 12 (by decide)
              have h13 : vs 13 = (.pointer (some ⟨xb, eo, none⟩)) := hF 13 (by decide)
              have h14 : vs 14 = (.pointer (some ⟨xb, eo, none⟩)) := hF 14 (by decide)
              have h15 : vs 15 = (.pointer (some ⟨xb, eo + 3, none⟩)) := hF 15 (by decide)
              have h16 : vs 16 = (.agg #[.int .i64 1, .pointer (some ⟨xb, eo + 3, none⟩), .pointer none, .pointer none, .pointer none]) := hF 16 (by decide)
              have h17 : (fun zv => ∃ g, zv = .slice (some ⟨g, 0, none⟩) 4 4) (vs 17) := hF 17 (by decide)
              have h18 : (fun zv => ∃ g cap, zv = .slice (some ⟨g, 0, none⟩) (eo + 4) cap) (vs 18) := hF 18 (by decide)
              have h19 : (fun zv => ∃ g cap, zv = .slice (some ⟨g, 0, none⟩) (eo + 4) cap) (vs 19) := hF 19 (by decide)
              clear hF
              have hans := (hJ.2.2 (hall 19 (by decide))).2
              obtain ⟨g9, cap9, hg9⟩ := h18
              have hown9 := hJ.1.own1 (hall 18 (by decide))
              rw [hg9] at hans hown9
              have OWN9 := Lib.hid hown9
              have LB9 := Lib.hid (LW.out.trans (hJ.1.low))
              have ROW9 := Lib.hid hJ.1.row2
              clear hJ hall hown9 h17 h19 hg9
              show (_ : Exit → Act → World → Prop) Exit.normal (puts _ vs 20 _) Wv
              simp only [puts, h0, h1, h2, h3, h4, h5, h6, h7, h8, h9, h10, h11, h12, h13, h14, h15, h16, List.getD_cons_zero, List.getD_cons_succ]
              clear h0 h1 h2 h3 h4 h5 h6 h7 h8 h9 h10 h11 h12 h13 h14 h15 h16
              simp only [hans]
              clear hans
              go_simp
              gi_wp2_with (fail)
              go_roundw
              case rel => exact ⟨k + 1, eo + 4, g9, cap9, ps ++ extP xb eo, by omega, by go_num, rfl, (by obtain ⟨h1, h2⟩ := HE.out; exact ⟨by omega, by rw [h2, h1]; exact take_ext xb k hlt⟩), OWN9, LB9, ROW9⟩
              case measure => simp [intOf] <;> omega
          · have hkn : k = 2 := by omega
            obtain ⟨he1, he2⟩ := HE.out
            have he : eo = 19 := by omega
            have hps : ps = itemP xb := by rw [he2, he]; rfl
            subst hps he
            have hrow0 : RowP wr g' (itemP xb) := row_of_owns (cap := cap) OW.out
            have hgb : w.heap.size ≤ g' ∧ g' < wr.heap.size := World.ownsRow.lt OW.out g' rfl
            have hT0 : ¬ T wr g' := fun h => by
              have h1 := HT2.out [] w wr H0.out LW.out g' h
              have h2 := HT1.out [] w H0.out g' h1
              omega
            have hJ0 := HJ.out _ _ _ H0.out LW.out
            obtain ⟨Og, hOg⟩ : ∃ o, o = wr.heap[g']? := ⟨_, rfl⟩
            have HROW : Hid (∀ W : World, W.heap[g']? = Og → RowP W g' (itemP xb)) := fun W hW i p hp j u hu => (cell_same (hW.trans hOg)).trans (hrow0 i p hp j u hu)
            have HJ0 := Lib.hid hJ0
            have HT0 := Lib.hid hT0
            have HO0 := Lib.hid hOg.symm
            have HG0 : Hid (g' < wr.heap.size) := hgb.2
            have hnk : ¬ ((k : Int) < 2) := by omega
            clear hpl hlt hk hkn he1 he2 hrow0 hgb hT0 hJ0 hOg HE OW LW RW HPS
            gi_wp2_with (fail)
            gi_loopw [95] (fun i ws => ∃ k2 : Nat, k2 ≤ 19 ∧ i = .int .i64 (k2 : Int) ∧ Hid (J (List.range k2) ws) ∧ Hid (ws.heap[g']? = Og) ∧ Hid (¬ T ws g') ∧ Hid (g' < ws.heap.size)) (fun i _ => 19 - (intOf i).toNat)
            case atStart => exact ⟨0, by omega, rfl, HJ0, HO0, HT0, HG0⟩
            case round =>
              obtain ⟨k, hk, rfl, HI, HO, HT, HG⟩ := hrel
              by_cases hlt : k < 19
              · have hkx : k < (itemP xb).length := hlt
                have hr := HROW.out _ HO.out k _ (getP hkx)
                obtain ⟨⟨kd, st, pb, po⟩, hp⟩ : ∃ p, p = (itemP xb).getD k nilP := ⟨_, rfl⟩
                rw [← hp] at hr
                have HE : Hid (encP (itemP xb) k = #[(⟨kd, st, pb, po⟩ : Plc).val]) := by show _ = _; unfold encP; rw [← hp]
                obtain ⟨x0, h0x⟩ : ∃ x, x = (if st = 0 then some (⟨pb, po, none⟩ : Addr) else none) := ⟨_, rfl⟩
                obtain ⟨x1, h1x⟩ : ∃ x, x = (if st = 1 then some (⟨pb, po, none⟩ : Addr) else none) := ⟨_, rfl⟩
                obtain ⟨x2, h2x⟩ : ∃ x, x = (if st = 2 then some (⟨pb, po, none⟩ : Addr) else none) := ⟨_, rfl⟩
                obtain ⟨x3, h3x⟩ : ∃ x, x = (if st = 3 then some (⟨pb, po, none⟩ : Addr) else none) := ⟨_, rfl⟩
                have hcs : (⟨kd, st, pb, po⟩ : Plc).cells = [.int .i64 kd, .pointer x0, .pointer x1, .pointer x2, .pointer x3] := by unfold Plc.cells Plc.ptr; rw [h0x, h1x, h2x, h3x]
                have HE2 : Hid (encP (itemP xb) k = #[.agg #[.int .i64 kd, .pointer x0, .pointer x1, .pointer x2, .pointer x3]]) := by show _ = _; rw [HE.out]; unfold Plc.val; rw [hcs]
                rw [hcs] at hr
                clear hcs h0x h1x h2x h3x hp
                have c0 := hr 0 _ rfl
                have c1 := hr 1 _ rfl
                have c2 := hr 2 _ rfl
                have c3 := hr 3 _ rfl
                have c4 := hr 4 _ rfl
                rw [Nat.add_zero] at c0
                have hkn : 0 ≤ (k : Int) ∧ (k : Int) < 19 := by omega
                clear hr hkx
                have G1 : Hid (Below wr.heap.size wr (wr.alloc (.cells #[.int .i64 kd, .pointer x0, .pointer x1, .pointer x2, .pointer x3] 106))) := bel_alloc (Below.refl _ _) (Nat.le_refl _)
                have hJ1 := HJ.out _ _ _ HI.out G1.out
                have HNT : Hid (¬ T (wr.alloc (.cells #[.int .i64 kd, .pointer x0, .pointer x1, .pointer x2, .pointer x3] 106)) g') := fun h => HT.out (HT2.out _ _ _ HI.out G1.out g' h)
                have HSZ : Hid (g' < (wr.alloc (.cells #[.int .i64 kd, .pointer x0, .pointer x1, .pointer x2, .pointer x3] 106)).heap.size) := Nat.lt_of_lt_of_le HG.out G1.out.size
                have HOB : Hid ((wr.alloc (.cells #[.int .i64 kd, .pointer x0, .pointer x1, .pointer x2, .pointer x3] 106)).heap[g']? = Og) := (G1.out.block g' HG.out).trans HO.out
                obtain ⟨fn, tmps, assign, body, hy, hR⟩ := HY.out (List.range k) k _ hJ1 ⟨rfl, hlt⟩
                rw [HE2.out] at hy
                clear hJ1
                gi_wp2_with (fail)
                refine ⟨wide_room _, ?_⟩
                refine hR.mono ?_
                rintro e w2 (⟨rfl, hJ2, hK⟩ | ⟨rfl, hJ2⟩)
                · have HJ2 := Lib.hid hJ2
                  have HO2 : Hid (w2.heap[g']? = Og) := (hK.2.1 g' HSZ.out HNT.out).trans HOB.out
                  have HT2' : Hid (¬ T w2 g') := fun h => by
                    rcases hK.2.2 g' h with h1 | h1
                    · exact HNT.out h1
                    · have := HSZ.out; omega
                  have HG2 : Hid (g' < w2.heap.size) := Nat.lt_of_lt_of_le HSZ.out hK.1
                  clear hJ2 hK hR hy
                  gi_wp2_with (fail)
                  go_roundw
                  case rel => exact ⟨k + 1, by omega, by go_num, (by show J _ _; rw [List.range_succ]; exact HJ2.out), HO2, HT2', HG2⟩
                  case measure => simp [intOf] <;> omega
                · have HJ2 := Lib.hid hJ2
                  clear hJ2 hR hy
                  gi_wp2_with (fail)
                  refine bodyPost_ret (results_none rfl _ _ _) rfl ⟨⟨.tuple #[], rfl⟩, .inr ⟨_, ⟨k, hlt, rfl⟩, ?_⟩⟩
                  rw [List.range_succ]; exact HJ2.out
              · have hkn : k = 19 := by omega
                subst hkn
                gi_wp2_with (fail)
                refine bodyPost_end (results_none rfl _ _ _) rfl ⟨⟨.tuple #[], rfl⟩, .inl ⟨List.range 19, rfl, HI.out⟩⟩

end Go.Proofs.YtgnpjenpehfjbaaDoor

