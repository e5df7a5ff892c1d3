/- code.Read's deferred closure: for a frame that panics with an error's number; for one that returns. -/
import Derived.Test.YtgnpjenpehfjbaaDoorCodeField
import Derived.Defers
import Derived.Recover
import Derived.Tactics2
namespace Go.Proofs.YtgnpjenpehfjbaaDoor
open Go.RowKit

theorem assert_errno (v : Value) (xT : TypeId) (w : World) : (Instr.typeAssert (.iface 43 v) xT 43 true).run Tryd.prog w = .ok (.tuple #[v, .bool true]) w := by
  simp [Instr.typeAssert, run_underlying Tryd.underlying43, go_sem, Result.andThen]

set_option maxRecDepth 100000 in
theorem catch_no (p0 p1 p2 : Nat) (no : Int) (x0 x1 x2 : Value) (older : List PanicEntry) (w : World)
    (h0 : w.cell? ⟨p0, 0, none⟩ = some x0) (h1 : w.cell? ⟨p1, 0, none⟩ = some x1) (h2 : w.cell? ⟨p2, 0, none⟩ = some x2)
    (f0 : w.frozen? ⟨p0, 0, none⟩ = false) (f1 : w.frozen? ⟨p1, 0, none⟩ = false) (f2 : w.frozen? ⟨p2, 0, none⟩ = false) (h01 : p0 ≠ p1) (h02 : p0 ≠ p2) (h12 : p1 ≠ p2) :
    CallsD Tryd.prog 87 #[.pointer (some ⟨p0, 0, none⟩), .pointer (some ⟨p1, 0, none⟩), .pointer (some ⟨p2, 0, none⟩)] (.panicking ({ v := .iface 43 (.int .i64 no), recovered := false } :: older)) w fun e u' w' =>
      e = .returned (.tuple #[]) ∧ u' = .panicking ({ v := .iface 43 (.int .i64 no), recovered := true } :: older) ∧
        w' = ((w.setCell ⟨p0, 0, none⟩ (.slice none 0 0)).setCell ⟨p1, 0, none⟩ (.int .i64 0)).setCell ⟨p2, 0, none⟩ (.int .i64 no) := by
  refine callsD_of_wpS Tryd.func87 rfl fun c₀ cs hu => ?_
  apply wpS_seq
  apply wpS_region
  simp [wpOpsS, go_sem, recoverD, hu, Tryd.ntmps87, Exit.thenS]
  have hta := assert_errno
  apply wpS_seq
  apply wpS_region
  simp [wpOpsS, go_sem, Exit.thenS]
  refine wpS_cond (t := true) (by simp [Act.eval, Array.replicate]) ?_
  simp only [if_true]
  apply wpS_seq
  apply wpS_region
  simp [wpOpsS, go_sem, Exit.thenS, hta]
  apply wpS_seq
  apply wpS_seq
  apply wpS_region
  simp [wpOpsS, go_sem, Exit.thenS]
  refine wpS_cond (t := false) (by simp [Act.eval, Array.replicate]) ?_
  simp only [Bool.false_eq_true, if_false]
  refine wpS_of_wp (wp_skip ?_)
  simp only [Exit.thenS]
  apply wpS_region
  simp [wpOpsS, go_sem, h0, h1, h2, f0, f1, f2, h01, h02, h12, Ne.symm h01, Ne.symm h02, Ne.symm h12, bodyPostS, results, Tryd.results87]

theorem catch_idle (p0 p1 p2 : Nat) (w : World) :
    CallsD Tryd.prog 87 #[.pointer (some ⟨p0, 0, none⟩), .pointer (some ⟨p1, 0, none⟩), .pointer (some ⟨p2, 0, none⟩)] .returning w fun e u' w' => e = .returned (.tuple #[]) ∧ u' = .returning ∧ w' = w := by
  refine callsD_of_wpS Tryd.func87 rfl fun c₀ cs hu => ?_
  apply wpS_seq
  apply wpS_region
  simp [wpOpsS, go_sem, recoverD, hu, Tryd.ntmps87, Exit.thenS]
  apply wpS_seq
  apply wpS_region
  simp [wpOpsS, go_sem, Exit.thenS]
  refine wpS_cond (t := false) (by simp [Act.eval, Array.replicate]) ?_
  simp only [Bool.false_eq_true, if_false]
  refine wpS_of_wp (wp_skip ?_)
  cases c₀
  simp_all [bodyPostS, results, Tryd.results87]

end Go.Proofs.YtgnpjenpehfjbaaDoor
