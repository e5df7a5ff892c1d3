/- Wire: the head's places (by program: wip/tools/gen_wire12.py). -/
import Derived.Test.YtgnpjenpehfjbaaDoorWire11
namespace Go.Proofs.YtgnpjenpehfjbaaDoor
open Go.RowKit

def headP (pb cb : Nat) : List Plc := [⟨1, 1, pb, 0⟩, ⟨1, 1, pb, 1⟩, ⟨1, 1, pb, 2⟩, ⟨1, 0, pb, 3⟩, ⟨1, 0, pb, 4⟩, ⟨1, 0, pb, 5⟩, ⟨1, 0, pb, 6⟩, ⟨1, 1, cb, 0⟩]
def headC (pb cb : Nat) : Array Value := #[.int .i64 1, .pointer none, .pointer (some ⟨pb, 0, none⟩), .pointer none, .pointer none, .int .i64 1, .pointer none, .pointer (some ⟨pb, 1, none⟩), .pointer none, .pointer none, .int .i64 1, .pointer none, .pointer (some ⟨pb, 2, none⟩), .pointer none, .pointer none, .int .i64 1, .pointer (some ⟨pb, 3, none⟩), .pointer none, .pointer none, .pointer none, .int .i64 1, .pointer (some ⟨pb, 4, none⟩), .pointer none, .pointer none, .pointer none, .int .i64 1, .pointer (some ⟨pb, 5, none⟩), .pointer none, .pointer none, .pointer none, .int .i64 1, .pointer (some ⟨pb, 6, none⟩), .pointer none, .pointer none, .pointer none, .int .i64 1, .pointer none, .pointer (some ⟨cb, 0, none⟩), .pointer none, .pointer none]
theorem build_head (pb cb : Nat) (W : World) : (Instr.buildSlice 109 8 #[(0, .agg #[.int .i64 1, .pointer none, .pointer (some ⟨pb, 0, none⟩), .pointer none, .pointer none]), (1, .agg #[.int .i64 1, .pointer none, .pointer (some ⟨pb, 1, none⟩), .pointer none, .pointer none]), (2, .agg #[.int .i64 1, .pointer none, .pointer (some ⟨pb, 2, none⟩), .pointer none, .pointer none]), (3, .agg #[.int .i64 1, .pointer (some ⟨pb, 3, none⟩), .pointer none, .pointer none, .pointer none]), (4, .agg #[.int .i64 1, .pointer (some ⟨pb, 4, none⟩), .pointer none, .pointer none, .pointer none]), (5, .agg #[.int .i64 1, .pointer (some ⟨pb, 5, none⟩), .pointer none, .pointer none, .pointer none]), (6, .agg #[.int .i64 1, .pointer (some ⟨pb, 6, none⟩), .pointer none, .pointer none, .pointer none]), (7, .agg #[.int .i64 1, .pointer none, .pointer (some ⟨cb, 0, none⟩), .pointer none, .pointer none])]).run Tryd.prog W = .ok (.slice (some ⟨W.heap.size, 0, none⟩) 8 8) (W.alloc (.cells (headC pb cb) 106)) := by kernel_rfl
theorem values_calls (a : Option Addr) (n c : Nat) (w : World) : Calls Tryd.prog 58 #[.slice a n c] w fun e w' => e = .returned (.func (.func 76) #[] #[.pointer (some ⟨w.heap.size, 0, none⟩)]) ∧ w.alloc (.cells #[.slice a n c] 109) = w' := by
  go_enter Tryd.func58, Tryd.ntmps58
  go_wp2
  go_ret
  exact ⟨rfl, by trivial⟩
theorem exec_buildSlice {P : Program} {o : Oper} {a : Act} {W : World} (t : TypeId) (len : Nat) (parts : Array (Nat × Operand)) (ho : o.op = .buildSlice t len parts) (ps : Array (Nat × Value)) (hp : (parts.map fun (i, x) => (i, a.eval x)) = ps) (v : Value) (W' : World) (hr : (Instr.buildSlice t len ps).run P W = .ok v W') : (execOp a.eval o).run P W = .ok (.value v) W' := by
  subst hp
  unfold execOp
  simp only [ho, Sem.run_bind, hr, Result.andThen_ok]
  rfl
structure HeadJ (w : World) (pb cb : Nat) (d30 d31 d32 : Bool) (v30 v31 v32 : Value) (W : World) : Prop where
  low : Below w.heap.size w W
  row : d30 = true → ∃ g, v30 = .slice (some ⟨g, 0, none⟩) 8 8 ∧ W.heap[g]? = some (.cells (headC pb cb) 106 (0, 0))
  clo : d31 = true → ∃ q g, v31 = .func (.func 76) #[] #[.pointer (some ⟨q, 0, none⟩)] ∧ W.heap[q]? = some (.cells #[.slice (some ⟨g, 0, none⟩) 8 8] 109 (0, 0)) ∧ W.heap[g]? = some (.cells (headC pb cb) 106 (0, 0))
  ans : d32 = true → ∃ q g, v32 = .func (.func 76) #[] #[.pointer (some ⟨q, 0, none⟩)] ∧ W.heap[q]? = some (.cells #[.slice (some ⟨g, 0, none⟩) 8 8] 109 (0, 0)) ∧ W.heap[g]? = some (.cells (headC pb cb) 106 (0, 0))
theorem HeadJ.below {w : World} {pb cb : Nat} {d30 d31 d32 : Bool} {v30 v31 v32 : Value} {W W' : World} (h : HeadJ w pb cb d30 d31 d32 v30 v31 v32 W) (hb : Below W.heap.size W W') : HeadJ w pb cb d30 d31 d32 v30 v31 v32 W' := by
  refine ⟨h.low.trans (hb.mono h.low.size), fun e => ?_, fun e => ?_, fun e => ?_⟩
  · obtain ⟨g, h1, h2⟩ := h.row e
    exact ⟨g, h1, stays h2 hb⟩
  · obtain ⟨q, g, h1, h2, h3⟩ := h.clo e
    exact ⟨q, g, h1, stays h2 hb, stays h3 hb⟩
  · obtain ⟨q, g, h1, h2, h3⟩ := h.ans e
    exact ⟨q, g, h1, stays h2 hb, stays h3 hb⟩
theorem headC_row {W : World} {g pb cb : Nat} (h : W.heap[g]? = some (.cells (headC pb cb) 106 (0, 0))) : RowP W g (headP pb cb) := by
  intro i p hp j u hu
  rw [cell_of_row _ _ _ _ _ _ h]
  have hi : i < 8 := (List.getElem?_eq_some_iff.1 hp).1
  have hj : j < 5 := (List.getElem?_eq_some_iff.1 hu).1
  rcases (show i = 0 ∨ i = 1 ∨ i = 2 ∨ i = 3 ∨ i = 4 ∨ i = 5 ∨ i = 6 ∨ i = 7 by omega) with rfl | rfl | rfl | rfl | rfl | rfl | rfl | rfl <;> cases hp <;>
    rcases (show j = 0 ∨ j = 1 ∨ j = 2 ∨ j = 3 ∨ j = 4 by omega) with rfl | rfl | rfl | rfl | rfl <;> cases hu <;> rfl

set_option maxRecDepth 100000 in
set_option maxHeartbeats 4000000 in
theorem head_any (pb cb : Nat) (w : World) : Calls Tryd.prog 34 #[.pointer (some ⟨pb, 0, none⟩), .pointer (some ⟨cb, 0, none⟩)] w fun e w' => (∃ q g, e = .returned (.func (.func 76) #[] #[.pointer (some ⟨q, 0, none⟩)]) ∧ InvV q g 8 (headP pb cb) w') ∧ Below w.heap.size w w' := by
  go_enter Tryd.func34, Tryd.ntmps34
  go_wp2_with (fail)
  refine wpIn_wide (n := 5).1 (wpIn_flowM (F0 := Fence.wide) (n0 := 5) (fun _ => trivial) (fun h => by cases h) (by kernel_rfl) (by kernel_rfl) 33 33 (by kernel_rfl) (fun j => ([0, 1, 2, 3, 4, 5, 6, 7, 8, 9, 10, 11, 12, 13, 14, 15, 16, 17, 18, 19, 20, 21, 22, 23, 24, 25, 26, 27, 28, 29, 30, 31, 32] : List Nat).getD j 0) (fun j => ([5, 6, 7, 8, 9, 10, 11, 12, 13, 14, 15, 16, 17, 18, 19, 20, 21, 22, 23, 24, 25, 26, 27, 28, 29, 30, 31, 32, 33, 34, 35, 36, 4] : List Nat).getD j 0) (by kernel_rfl) (by kernel_rfl) (by kernel_rfl) (by kernel_rfl) (by kernel_rfl) (by kernel_rfl) (by kernel_rfl) (fun j zv => ([(fun zv => zv = (.pointer (some ⟨pb, 0, none⟩))), (fun zv => zv = (.pointer (some ⟨pb, 0, none⟩))), (fun zv => zv = (.pointer (some ⟨pb, 0, none⟩))), (fun zv => zv = (.agg #[.int .i64 1, .pointer none, .pointer (some ⟨pb, 0, none⟩), .pointer none, .pointer none])), (fun zv => zv = (.pointer (some ⟨pb, 0, none⟩))), (fun zv => zv = (.pointer (some ⟨pb, 0, none⟩))), (fun zv => zv = (.pointer (some ⟨pb, 1, none⟩))), (fun zv => zv = (.agg #[.int .i64 1, .pointer none, .pointer (some ⟨pb, 1, none⟩), .pointer none, .pointer none])), (fun zv => zv = (.pointer (some ⟨pb, 0, none⟩))), (fun zv => zv = (.pointer (some ⟨pb, 0, none⟩))), (fun zv => zv = (.pointer (some ⟨pb, 2, none⟩))), (fun zv => zv = (.agg #[.int .i64 1, .pointer none, .pointer (some ⟨pb, 2, none⟩), .pointer none, .pointer none])), (fun zv => zv = (.pointer (some ⟨pb, 0, none⟩))), (fun zv => zv = (.pointer (some ⟨pb, 0, none⟩))), (fun zv => zv = (.pointer (some ⟨pb, 3, none⟩))), (fun zv => zv = (.agg #[.int .i64 1, .pointer (some ⟨pb, 3, none⟩), .pointer none, .pointer none, .pointer none])), (fun zv => zv = (.pointer (some ⟨pb, 0, none⟩))), (fun zv => zv = (.pointer (some ⟨pb, 0, none⟩))), (fun zv => zv = (.pointer (some ⟨pb, 4, none⟩))), (fun zv => zv = (.agg #[.int .i64 1, .pointer (some ⟨pb, 4, none⟩), .pointer none, .pointer none, .pointer none])), (fun zv => zv = (.pointer (some ⟨pb, 0, none⟩))), (fun zv => zv = (.pointer (some ⟨pb, 0, none⟩))), (fun zv => zv = (.pointer (some ⟨pb, 5, none⟩))), (fun zv => zv = (.agg #[.int .i64 1, .pointer (some ⟨pb, 5, none⟩), .pointer none, .pointer none, .pointer none])), (fun zv => zv = (.pointer (some ⟨pb, 0, none⟩))), (fun zv => zv = (.pointer (some ⟨pb, 0, none⟩))), (fun zv => zv = (.pointer (some ⟨pb, 6, none⟩))), (fun zv => zv = (.agg #[.int .i64 1, .pointer (some ⟨pb, 6, none⟩), .pointer none, .pointer none, .pointer none])), (fun zv => zv = (.pointer (some ⟨cb, 0, none⟩))), (fun zv => zv = (.agg #[.int .i64 1, .pointer none, .pointer (some ⟨cb, 0, none⟩), .pointer none, .pointer none])), (fun zv => ∃ g, zv = .slice (some ⟨g, 0, none⟩) 8 8), (fun zv => ∃ q, zv = .func (.func 76) #[] #[.pointer (some ⟨q, 0, none⟩)]), (fun zv => ∃ q, zv = .func (.func 76) #[] #[.pointer (some ⟨q, 0, none⟩)])] : List (Value → Prop)).getD j (fun _ => True) zv) (fun d vs W => HeadJ w pb cb (d 30) (d 31) (d 32) (vs 30) (vs 31) (vs 32) W) ?h0a ?stepa ?fina)
  case h0a => exact fun _ => ⟨bdN w.heap.size w 1, (fun e => by cases e), (fun e => by cases e), (fun e => by cases e)⟩
  case stepa =>
    intro i o a W d vs hi ho hdi hJ hf hr hF
    replace hi : i < 33 := hi
    rcases (show i = 0 ∨ i = 1 ∨ i = 2 ∨ i = 3 ∨ i = 4 ∨ i = 5 ∨ i = 6 ∨ i = 7 ∨ i = 8 ∨ i = 9 ∨ i = 10 ∨ i = 11 ∨ i = 12 ∨ i = 13 ∨ i = 14 ∨ i = 15 ∨ i = 16 ∨ i = 17 ∨ i = 18 ∨ i = 19 ∨ i = 20 ∨ i = 21 ∨ i = 22 ∨ i = 23 ∨ i = 24 ∨ i = 25 ∨ i = 26 ∨ i = 27 ∨ i = 28 ∨ i = 29 ∨ i = 30 ∨ i = 31 ∨ i = 32 by omega) with rfl | rfl | rfl | rfl | rfl | rfl | rfl | rfl | rfl | rfl | rfl | rfl | rfl | rfl | rfl | rfl | rfl | rfl | rfl | rfl | rfl | rfl | rfl | rfl | rfl | rfl | rfl | rfl | rfl | rfl | rfl | rfl | rfl
    · replace ho := op_at ho (by rfl)
      subst ho
      have f0 : a.tmps.getD 0 undef = (.pointer (some ⟨pb, 0, none⟩)) := hf 0 (by kernel_rfl)
      exact .inl ⟨(fun k b h => by cases h), .inl ⟨0, by decide, rfl, (.pointer (some ⟨pb, 0, none⟩)), W, (by simp [go_sem, Act.eval, f0]), rfl, hJ⟩⟩
    · replace ho := op_at ho (by rfl)
      subst ho
      have d0 : a.tmps.getD 5 undef = (.pointer (some ⟨pb, 0, none⟩)) := by have h1 := hF 0 (by decide) (hr 0 (by kernel_rfl)); exact h1.2.trans h1.1
      exact .inl ⟨(fun k b h => by cases h), .inl ⟨1, by decide, rfl, (.pointer (some ⟨pb, 0, none⟩)), W, (by simp [go_sem, Act.eval, d0]), rfl, hJ⟩⟩
    · replace ho := op_at ho (by rfl)
      subst ho
      have d1 : a.tmps.getD 6 undef = (.pointer (some ⟨pb, 0, none⟩)) := by have h1 := hF 1 (by decide) (hr 1 (by kernel_rfl)); exact h1.2.trans h1.1
      exact .inl ⟨(fun k b h => by cases h), .inl ⟨2, by decide, rfl, (.pointer (some ⟨pb, 0, none⟩)), W, (by simp [go_sem, Act.eval, d1]), rfl, hJ⟩⟩
    · replace ho := op_at ho (by rfl)
      subst ho
      have d2 : a.tmps.getD 7 undef = (.pointer (some ⟨pb, 0, none⟩)) := by have h1 := hF 2 (by decide) (hr 2 (by kernel_rfl)); exact h1.2.trans h1.1
      refine .inl ⟨(fun k b h => by cases h), .inr (.inr ⟨3, by decide, rfl, 59, #[(.pointer (some ⟨pb, 0, none⟩))], W, (by simp [go_sem, Act.eval, d2]), ?_⟩)⟩
      refine (callsIn_wide.2 (small_any _ W)).mono ?_
      rintro e W' ⟨rfl, hBe⟩
      exact ⟨_, rfl, rfl, hJ.below hBe⟩
    · replace ho := op_at ho (by rfl)
      subst ho
      have f0 : a.tmps.getD 0 undef = (.pointer (some ⟨pb, 0, none⟩)) := hf 0 (by kernel_rfl)
      exact .inl ⟨(fun k b h => by cases h), .inl ⟨4, by decide, rfl, (.pointer (some ⟨pb, 0, none⟩)), W, (by simp [go_sem, Act.eval, f0]), rfl, hJ⟩⟩
    · replace ho := op_at ho (by rfl)
      subst ho
      have d4 : a.tmps.getD 9 undef = (.pointer (some ⟨pb, 0, none⟩)) := by have h1 := hF 4 (by decide) (hr 4 (by kernel_rfl)); exact h1.2.trans h1.1
      exact .inl ⟨(fun k b h => by cases h), .inl ⟨5, by decide, rfl, (.pointer (some ⟨pb, 0, none⟩)), W, (by simp [go_sem, Act.eval, d4]), rfl, hJ⟩⟩
    · replace ho := op_at ho (by rfl)
      subst ho
      have d5 : a.tmps.getD 10 undef = (.pointer (some ⟨pb, 0, none⟩)) := by have h1 := hF 5 (by decide) (hr 5 (by kernel_rfl)); exact h1.2.trans h1.1
      exact .inl ⟨(fun k b h => by cases h), .inl ⟨6, by decide, rfl, (.pointer (some ⟨pb, 1, none⟩)), W, (by simp [go_sem, Act.eval, d5]), rfl, hJ⟩⟩
    · replace ho := op_at ho (by rfl)
      subst ho
      have d6 : a.tmps.getD 11 undef = (.pointer (some ⟨pb, 1, none⟩)) := by have h1 := hF 6 (by decide) (hr 6 (by kernel_rfl)); exact h1.2.trans h1.1
      refine .inl ⟨(fun k b h => by cases h), .inr (.inr ⟨7, by decide, rfl, 59, #[(.pointer (some ⟨pb, 1, none⟩))], W, (by simp [go_sem, Act.eval, d6]), ?_⟩)⟩
      refine (callsIn_wide.2 (small_any _ W)).mono ?_
      rintro e W' ⟨rfl, hBe⟩
      exact ⟨_, rfl, rfl, hJ.below hBe⟩
    · replace ho := op_at ho (by rfl)
      subst ho
      have f0 : a.tmps.getD 0 undef = (.pointer (some ⟨pb, 0, none⟩)) := hf 0 (by kernel_rfl)
      exact .inl ⟨(fun k b h => by cases h), .inl ⟨8, by decide, rfl, (.pointer (some ⟨pb, 0, none⟩)), W, (by simp [go_sem, Act.eval, f0]), rfl, hJ⟩⟩
    · replace ho := op_at ho (by rfl)
      subst ho
      have d8 : a.tmps.getD 13 undef = (.pointer (some ⟨pb, 0, none⟩)) := by have h1 := hF 8 (by decide) (hr 8 (by kernel_rfl)); exact h1.2.trans h1.1
      exact .inl ⟨(fun k b h => by cases h), .inl ⟨9, by decide, rfl, (.pointer (some ⟨pb, 0, none⟩)), W, (by simp [go_sem, Act.eval, d8]), rfl, hJ⟩⟩
    · replace ho := op_at ho (by rfl)
      subst ho
      have d9 : a.tmps.getD 14 undef = (.pointer (some ⟨pb, 0, none⟩)) := by have h1 := hF 9 (by decide) (hr 9 (by kernel_rfl)); exact h1.2.trans h1.1
      exact .inl ⟨(fun k b h => by cases h), .inl ⟨10, by decide, rfl, (.pointer (some ⟨pb, 2, none⟩)), W, (by simp [go_sem, Act.eval, d9]), rfl, hJ⟩⟩
    · replace ho := op_at ho (by rfl)
      subst ho
      have d10 : a.tmps.getD 15 undef = (.pointer (some ⟨pb, 2, none⟩)) := by have h1 := hF 10 (by decide) (hr 10 (by kernel_rfl)); exact h1.2.trans h1.1
      refine .inl ⟨(fun k b h => by cases h), .inr (.inr ⟨11, by decide, rfl, 59, #[(.pointer (some ⟨pb, 2, none⟩))], W, (by simp [go_sem, Act.eval, d10]), ?_⟩)⟩
      refine (callsIn_wide.2 (small_any _ W)).mono ?_
      rintro e W' ⟨rfl, hBe⟩
      exact ⟨_, rfl, rfl, hJ.below hBe⟩
    · replace ho := op_at ho (by rfl)
      subst ho
      have f0 : a.tmps.getD 0 undef = (.pointer (some ⟨pb, 0, none⟩)) := hf 0 (by kernel_rfl)
      exact .inl ⟨(fun k b h => by cases h), .inl ⟨12, by decide, rfl, (.pointer (some ⟨pb, 0, none⟩)), W, (by simp [go_sem, Act.eval, f0]), rfl, hJ⟩⟩
    · replace ho := op_at ho (by rfl)
      subst ho
      have d12 : a.tmps.getD 17 undef = (.pointer (some ⟨pb, 0, none⟩)) := by have h1 := hF 12 (by decide) (hr 12 (by kernel_rfl)); exact h1.2.trans h1.1
      exact .inl ⟨(fun k b h => by cases h), .inl ⟨13, by decide, rfl, (.pointer (some ⟨pb, 0, none⟩)), W, (by simp [go_sem, Act.eval, d12]), rfl, hJ⟩⟩
    · replace ho := op_at ho (by rfl)
      subst ho
      have d13 : a.tmps.getD 18 undef = (.pointer (some ⟨pb, 0, none⟩)) := by have h1 := hF 13 (by decide) (hr 13 (by kernel_rfl)); exact h1.2.trans h1.1
      exact .inl ⟨(fun k b h => by cases h), .inl ⟨14, by decide, rfl, (.pointer (some ⟨pb, 3, none⟩)), W, (by simp [go_sem, Act.eval, d13]), rfl, hJ⟩⟩
    · replace ho := op_at ho (by rfl)
      subst ho
      have d14 : a.tmps.getD 19 undef = (.pointer (some ⟨pb, 3, none⟩)) := by have h1 := hF 14 (by decide) (hr 14 (by kernel_rfl)); exact h1.2.trans h1.1
      refine .inl ⟨(fun k b h => by cases h), .inr (.inr ⟨15, by decide, rfl, 60, #[(.pointer (some ⟨pb, 3, none⟩))], W, (by simp [go_sem, Act.eval, d14]), ?_⟩)⟩
      refine (callsIn_wide.2 (whole_any _ W)).mono ?_
      rintro e W' ⟨rfl, hBe⟩
      exact ⟨_, rfl, rfl, hJ.below hBe⟩
    · replace ho := op_at ho (by rfl)
      subst ho
      have f0 : a.tmps.getD 0 undef = (.pointer (some ⟨pb, 0, none⟩)) := hf 0 (by kernel_rfl)
      exact .inl ⟨(fun k b h => by cases h), .inl ⟨16, by decide, rfl, (.pointer (some ⟨pb, 0, none⟩)), W, (by simp [go_sem, Act.eval, f0]), rfl, hJ⟩⟩
    · replace ho := op_at ho (by rfl)
      subst ho
      have d16 : a.tmps.getD 21 undef = (.pointer (some ⟨pb, 0, none⟩)) := by have h1 := hF 16 (by decide) (hr 16 (by kernel_rfl)); exact h1.2.trans h1.1
      exact .inl ⟨(fun k b h => by cases h), .inl ⟨17, by decide, rfl, (.pointer (some ⟨pb, 0, none⟩)), W, (by simp [go_sem, Act.eval, d16]), rfl, hJ⟩⟩
    · replace ho := op_at ho (by rfl)
      subst ho
      have d17 : a.tmps.getD 22 undef = (.pointer (some ⟨pb, 0, none⟩)) := by have h1 := hF 17 (by decide) (hr 17 (by kernel_rfl)); exact h1.2.trans h1.1
      exact .inl ⟨(fun k b h => by cases h), .inl ⟨18, by decide, rfl, (.pointer (some ⟨pb, 4, none⟩)), W, (by simp [go_sem, Act.eval, d17]), rfl, hJ⟩⟩
    · replace ho := op_at ho (by rfl)
      subst ho
      have d18 : a.tmps.getD 23 undef = (.pointer (some ⟨pb, 4, none⟩)) := by have h1 := hF 18 (by decide) (hr 18 (by kernel_rfl)); exact h1.2.trans h1.1
      refine .inl ⟨(fun k b h => by cases h), .inr (.inr ⟨19, by decide, rfl, 60, #[(.pointer (some ⟨pb, 4, none⟩))], W, (by simp [go_sem, Act.eval, d18]), ?_⟩)⟩
      refine (callsIn_wide.2 (whole_any _ W)).mono ?_
      rintro e W' ⟨rfl, hBe⟩
      exact ⟨_, rfl, rfl, hJ.below hBe⟩
    · replace ho := op_at ho (by rfl)
      subst ho
      have f0 : a.tmps.getD 0 undef = (.pointer (some ⟨pb, 0, none⟩)) := hf 0 (by kernel_rfl)
      exact .inl ⟨(fun k b h => by cases h), .inl ⟨20, by decide, rfl, (.pointer (some ⟨pb, 0, none⟩)), W, (by simp [go_sem, Act.eval, f0]), rfl, hJ⟩⟩
    · replace ho := op_at ho (by rfl)
      subst ho
      have d20 : a.tmps.getD 25 undef = (.pointer (some ⟨pb, 0, none⟩)) := by have h1 := hF 20 (by decide) (hr 20 (by kernel_rfl)); exact h1.2.trans h1.1
      exact .inl ⟨(fun k b h => by cases h), .inl ⟨21, by decide, rfl, (.pointer (some ⟨pb, 0, none⟩)), W, (by simp [go_sem, Act.eval, d20]), rfl, hJ⟩⟩
    · replace ho := op_at ho (by rfl)
      subst ho
      have d21 : a.tmps.getD 26 undef = (.pointer (some ⟨pb, 0, none⟩)) := by have h1 := hF 21 (by decide) (hr 21 (by kernel_rfl)); exact h1.2.trans h1.1
      exact .inl ⟨(fun k b h => by cases h), .inl ⟨22, by decide, rfl, (.pointer (some ⟨pb, 5, none⟩)), W, (by simp [go_sem, Act.eval, d21]), rfl, hJ⟩⟩
    · replace ho := op_at ho (by rfl)
      subst ho
      have d22 : a.tmps.getD 27 undef = (.pointer (some ⟨pb, 5, none⟩)) := by have h1 := hF 22 (by decide) (hr 22 (by kernel_rfl)); exact h1.2.trans h1.1
      refine .inl ⟨(fun k b h => by cases h), .inr (.inr ⟨23, by decide, rfl, 60, #[(.pointer (some ⟨pb, 5, none⟩))], W, (by simp [go_sem, Act.eval, d22]), ?_⟩)⟩
      refine (callsIn_wide.2 (whole_any _ W)).mono ?_
      rintro e W' ⟨rfl, hBe⟩
      exact ⟨_, rfl, rfl, hJ.below hBe⟩
    · replace ho := op_at ho (by rfl)
      subst ho
      have f0 : a.tmps.getD 0 undef = (.pointer (some ⟨pb, 0, none⟩)) := hf 0 (by kernel_rfl)
      exact .inl ⟨(fun k b h => by cases h), .inl ⟨24, by decide, rfl, (.pointer (some ⟨pb, 0, none⟩)), W, (by simp [go_sem, Act.eval, f0]), rfl, hJ⟩⟩
    · replace ho := op_at ho (by rfl)
      subst ho
      have d24 : a.tmps.getD 29 undef = (.pointer (some ⟨pb, 0, none⟩)) := by have h1 := hF 24 (by decide) (hr 24 (by kernel_rfl)); exact h1.2.trans h1.1
      exact .inl ⟨(fun k b h => by cases h), .inl ⟨25, by decide, rfl, (.pointer (some ⟨pb, 0, none⟩)), W, (by simp [go_sem, Act.eval, d24]), rfl, hJ⟩⟩
    · replace ho := op_at ho (by rfl)
      subst ho
      have d25 : a.tmps.getD 30 undef = (.pointer (some ⟨pb, 0, none⟩)) := by have h1 := hF 25 (by decide) (hr 25 (by kernel_rfl)); exact h1.2.trans h1.1
      exact .inl ⟨(fun k b h => by cases h), .inl ⟨26, by decide, rfl, (.pointer (some ⟨pb, 6, none⟩)), W, (by simp [go_sem, Act.eval, d25]), rfl, hJ⟩⟩
    · replace ho := op_at ho (by rfl)
      subst ho
      have d26 : a.tmps.getD 31 undef = (.pointer (some ⟨pb, 6, none⟩)) := by have h1 := hF 26 (by decide) (hr 26 (by kernel_rfl)); exact h1.2.trans h1.1
      refine .inl ⟨(fun k b h => by cases h), .inr (.inr ⟨27, by decide, rfl, 60, #[(.pointer (some ⟨pb, 6, none⟩))], W, (by simp [go_sem, Act.eval, d26]), ?_⟩)⟩
      refine (callsIn_wide.2 (whole_any _ W)).mono ?_
      rintro e W' ⟨rfl, hBe⟩
      exact ⟨_, rfl, rfl, hJ.below hBe⟩
    · replace ho := op_at ho (by rfl)
      subst ho
      have f1 : a.tmps.getD 1 undef = (.pointer (some ⟨cb, 0, none⟩)) := hf 1 (by kernel_rfl)
      exact .inl ⟨(fun k b h => by cases h), .inl ⟨28, by decide, rfl, (.pointer (some ⟨cb, 0, none⟩)), W, (by simp [go_sem, Act.eval, f1]), rfl, hJ⟩⟩
    · replace ho := op_at ho (by rfl)
      subst ho
      have d28 : a.tmps.getD 33 undef = (.pointer (some ⟨cb, 0, none⟩)) := by have h1 := hF 28 (by decide) (hr 28 (by kernel_rfl)); exact h1.2.trans h1.1
      refine .inl ⟨(fun k b h => by cases h), .inr (.inr ⟨29, by decide, rfl, 59, #[(.pointer (some ⟨cb, 0, none⟩))], W, (by simp [go_sem, Act.eval, d28]), ?_⟩)⟩
      refine (callsIn_wide.2 (small_any _ W)).mono ?_
      rintro e W' ⟨rfl, hBe⟩
      exact ⟨_, rfl, rfl, hJ.below hBe⟩
    · replace ho := op_at ho (by rfl)
      subst ho
      have d3 : a.tmps.getD 8 undef = (.agg #[.int .i64 1, .pointer none, .pointer (some ⟨pb, 0, none⟩), .pointer none, .pointer none]) := by have h1 := hF 3 (by decide) (hr 3 (by kernel_rfl)); exact h1.2.trans h1.1
      have d7 : a.tmps.getD 12 undef = (.agg #[.int .i64 1, .pointer none, .pointer (some ⟨pb, 1, none⟩), .pointer none, .pointer none]) := by have h1 := hF 7 (by decide) (hr 7 (by kernel_rfl)); exact h1.2.trans h1.1
      have d11 : a.tmps.getD 16 undef = (.agg #[.int .i64 1, .pointer none, .pointer (some ⟨pb, 2, none⟩), .pointer none, .pointer none]) := by have h1 := hF 11 (by decide) (hr 11 (by kernel_rfl)); exact h1.2.trans h1.1
      have d15 : a.tmps.getD 20 undef = (.agg #[.int .i64 1, .pointer (some ⟨pb, 3, none⟩), .pointer none, .pointer none, .pointer none]) := by have h1 := hF 15 (by decide) (hr 15 (by kernel_rfl)); exact h1.2.trans h1.1
      have d19 : a.tmps.getD 24 undef = (.agg #[.int .i64 1, .pointer (some ⟨pb, 4, none⟩), .pointer none, .pointer none, .pointer none]) := by have h1 := hF 19 (by decide) (hr 19 (by kernel_rfl)); exact h1.2.trans h1.1
      have d23 : a.tmps.getD 28 undef = (.agg #[.int .i64 1, .pointer (some ⟨pb, 5, none⟩), .pointer none, .pointer none, .pointer none]) := by have h1 := hF 23 (by decide) (hr 23 (by kernel_rfl)); exact h1.2.trans h1.1
      have d27 : a.tmps.getD 32 undef = (.agg #[.int .i64 1, .pointer (some ⟨pb, 6, none⟩), .pointer none, .pointer none, .pointer none]) := by have h1 := hF 27 (by decide) (hr 27 (by kernel_rfl)); exact h1.2.trans h1.1
      have d29 : a.tmps.getD 34 undef = (.agg #[.int .i64 1, .pointer none, .pointer (some ⟨cb, 0, none⟩), .pointer none, .pointer none]) := by have h1 := hF 29 (by decide) (hr 29 (by kernel_rfl)); exact h1.2.trans h1.1
      exact .inl ⟨(fun k b h => by cases h), .inl ⟨30, by decide, rfl, .slice (some ⟨W.heap.size, 0, none⟩) 8 8, W.alloc (.cells (headC pb cb) 106), (exec_buildSlice _ _ _ rfl _ (by simp only [List.map_toArray, List.map_cons, List.map_nil, Act.eval, d3, d7, d11, d15, d19, d23, d27, d29]) _ _ (build_head pb cb W)), ⟨_, rfl⟩, ⟨(hJ.below (new_block W _).1).low, fun _ => ⟨_, rfl, (new_block W _).2⟩, (hJ.below (new_block W _).1).clo, (hJ.below (new_block W _).1).ans⟩⟩⟩
    · replace ho := op_at ho (by rfl)
      subst ho
      obtain ⟨g30, e30⟩ := hF 30 (by decide) (hr 30 (by kernel_rfl))
      replace e30 : a.tmps.getD 35 undef = vs 30 := e30
      replace g30 : (fun zv => ∃ g, zv = .slice (some ⟨g, 0, none⟩) 8 8) (vs 30) := g30
      have h30 : d 30 = true := hr 30 (by kernel_rfl)
      obtain ⟨g, hg, hrow⟩ := hJ.row h30
      rw [hg] at e30
      refine .inl ⟨(fun k b h => by cases h), .inr (.inr ⟨31, by decide, rfl, 58, #[.slice (some ⟨g, 0, none⟩) 8 8], W, (by simp [go_sem, Act.eval, e30]), ?_⟩)⟩
      refine (callsIn_wide.2 (values_calls _ 8 8 W)).mono ?_
      rintro e W' ⟨rfl, rfl⟩
      exact ⟨_, rfl, ⟨_, rfl⟩, ⟨(hJ.below (new_block W _).1).low, (hJ.below (new_block W _).1).row, fun _ => ⟨_, _, rfl, (new_block W _).2, stays hrow (new_block W _).1⟩, (hJ.below (new_block W _).1).ans⟩⟩
    · replace ho := op_at ho (by rfl)
      subst ho
      obtain ⟨g31, e31⟩ := hF 31 (by decide) (hr 31 (by kernel_rfl))
      replace e31 : a.tmps.getD 36 undef = vs 31 := e31
      replace g31 : (fun zv => ∃ q, zv = .func (.func 76) #[] #[.pointer (some ⟨q, 0, none⟩)]) (vs 31) := g31
      have h31 : d 31 = true := hr 31 (by kernel_rfl)
      obtain ⟨q, g, hq, hq2, hq3⟩ := hJ.clo h31
      rw [hq] at e31
      exact .inl ⟨(fun k b h => by cases h), .inl ⟨32, by decide, rfl, .func (.func 76) #[] #[.pointer (some ⟨q, 0, none⟩)], W, (by simp [go_sem, Act.eval, e31]), ⟨_, rfl⟩, ⟨hJ.low, hJ.row, hJ.clo, fun _ => ⟨q, g, rfl, hq2, hq3⟩⟩⟩⟩
  case fina =>
    intro d vs Wa hall hJ hF
    have h0 : vs 0 = (.pointer (some ⟨pb, 0, none⟩)) := hF 0 (by decide)
    have h1 : vs 1 = (.pointer (some ⟨pb, 0, none⟩)) := hF 1 (by decide)
    have h2 : vs 2 = (.pointer (some ⟨pb, 0, none⟩)) := hF 2 (by decide)
    have h3 : vs 3 = (.agg #[.int .i64 1, .pointer none, .pointer (some ⟨pb, 0, none⟩), .pointer none, .pointer none]) := hF 3 (by decide)
    have h4 : vs 4 = (.pointer (some ⟨pb, 0, none⟩)) := hF 4 (by decide)
    have h5 : vs 5 = (.pointer (some ⟨pb, 0, none⟩)) := hF 5 (by decide)
    have h6 : vs 6 = (.pointer (some ⟨pb, 1, none⟩)) := hF 6 (by decide)
    have h7 : vs 7 = (.agg #[.int .i64 1, .pointer none, .pointer (some ⟨pb, 1, none⟩), .pointer none, .pointer none]) := hF 7 (by decide)
    have h8 : vs 8 = (.pointer (some ⟨pb, 0, none⟩)) := hF 8 (by decide)
    have h9 : vs 9 = (.pointer (some ⟨pb, 0, none⟩)) := hF 9 (by decide)
    have h10 : vs 10 = (.pointer (some ⟨pb, 2, none⟩)) := hF 10 (by decide)
    have h11 : vs 11 = (.agg #[.int .i64 1, .pointer none, .pointer (some ⟨pb, 2, none⟩), .pointer none, .pointer none]) := hF 11 (by decide)
    have h12 : vs 12 = (.pointer (some ⟨pb, 0, none⟩)) := hF 12 (by decide)
    have h13 : vs 13 = (.pointer (some ⟨pb, 0, none⟩)) := hF 13 (by decide)
    have h14 : vs 14 = (.pointer (some ⟨pb, 3, none⟩)) := hF 14 (by decide)
    have h15 : vs 15 = (.agg #[.int .i64 1, .pointer (some ⟨pb, 3, none⟩), .pointer none, .pointer none, .pointer none]) := hF 15 (by decide)
    have h16 : vs 16 = (.pointer (some ⟨pb, 0, none⟩)) := hF 16 (by decide)
    have h17 : vs 17 = (.pointer (some ⟨pb, 0, none⟩)) := hF 17 (by decide)
    have h18 : vs 18 = (.pointer (some ⟨pb, 4, none⟩)) := hF 18 (by decide)
    have h19 : vs 19 = (.agg #[.int .i64 1, .pointer (some ⟨pb, 4, none⟩), .pointer none, .pointer none, .pointer none]) := hF 19 (by decide)
    have h20 : vs 20 = (.pointer (some ⟨pb, 0, none⟩)) := hF 20 (by decide)
    have h21 : vs 21 = (.pointer (some ⟨pb, 0, none⟩)) := hF 21 (by decide)
    have h22 : vs 22 = (.pointer (some ⟨pb, 5, none⟩)) := hF 22 (by decide)
    have h23 : vs 23 = (.agg #[.int .i64 1, .pointer (some ⟨pb, 5, none⟩), .pointer none, .pointer none, .pointer none]) := hF 23 (by decide)
    have h24 : vs 24 = (.pointer (some ⟨pb, 0, none⟩)) := hF 24 (by decide)
    have h25 : vs 25 = (.pointer (some ⟨pb, 0, none⟩)) := hF 25 (by decide)
    have h26 : vs 26 = (.pointer (some ⟨pb, 6, none⟩)) := hF 26 (by decide)
    have h27 : vs 27 = (.agg #[.int .i64 1, .pointer (some ⟨pb, 6, none⟩), .pointer none, .pointer none, .pointer none]) := hF 27 (by decide)
    have h28 : vs 28 = (.pointer (some ⟨cb, 0, none⟩)) := hF 28 (by decide)
    have h29 : vs 29 = (.agg #[.int .i64 1, .pointer none, .pointer (some ⟨cb, 0, none⟩), .pointer none, .pointer none]) := hF 29 (by decide)
    have h30 : (fun zv => ∃ g, zv = .slice (some ⟨g, 0, none⟩) 8 8) (vs 30) := hF 30 (by decide)
    have h31 : (fun zv => ∃ q, zv = .func (.func 76) #[] #[.pointer (some ⟨q, 0, none⟩)]) (vs 31) := hF 31 (by decide)
    have h32 : (fun zv => ∃ q, zv = .func (.func 76) #[] #[.pointer (some ⟨q, 0, none⟩)]) (vs 32) := hF 32 (by decide)
    clear hF
    obtain ⟨q, g, hq1, hq2, hq3⟩ := hJ.ans (hall 32 (by decide))
    have LW := Lib.hid hJ.low
    have Q2 := Lib.hid hq2
    have Q3 := Lib.hid hq3
    clear hJ hq2 hq3 h30 h31 h32 hall
    show (_ : Exit → Act → World → Prop) Exit.normal (puts _ vs 33 _) Wa
    simp only [puts, h0, h1, h2, h3, h4, h5, h6, h7, h8, h9, h10, h11, h12, h13, h14, h15, h16, h17, h18, h19, h20, h21, h22, h23, h24, h25, h26, h27, h28, h29, List.getD_cons_zero, List.getD_cons_succ]
    clear h0 h1 h2 h3 h4 h5 h6 h7 h8 h9 h10 h11 h12 h13 h14 h15 h16 h17 h18 h19 h20 h21 h22 h23 h24 h25 h26 h27 h28 h29
    simp only [hq1]
    go_simp
    go_wp2
    go_ret
    exact ⟨⟨q, g, rfl, Q2.out, (Array.getElem?_eq_some_iff.1 Q3.out).1, headC_row Q3.out⟩, LW.out⟩

end Go.Proofs.YtgnpjenpehfjbaaDoor
