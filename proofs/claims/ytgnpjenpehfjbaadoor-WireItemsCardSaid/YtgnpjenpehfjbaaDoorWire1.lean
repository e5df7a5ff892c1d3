/- Wire: names, nodes, ranges, extreme values, on both sides (by program: wip/tools/gen_wire1.py). -/
import Derived.Test.YtgnpjenpehfjbaaDoorBase
import Derived.Lib.Hide
import Derived.WalkKit
import Derived.WalkLawsBesides
import Derived.WalkSpells
namespace Go.Proofs.YtgnpjenpehfjbaaDoor
open Go.RowKit

def inB (x lo hi : Int) : Bool := decide (lo ≤ x) && decide (x ≤ hi)
def nodeB (n : Int) : Bool := decide (0 ≤ n) && decide (n < 16)
def flowB (x : Int) : Bool := inB x (-2147483647) 2147483647
theorem inB_t {x lo hi : Int} (h1 : lo ≤ x) (h2 : x ≤ hi) : inB x lo hi = true := by simp [inB, h1, h2]
theorem nodeB_iff {n : Int} : nodeB n = true ↔ 0 ≤ n ∧ n < 16 := by simp [nodeB]
theorem inB_iff {x lo hi : Int} : inB x lo hi = true ↔ lo ≤ x ∧ x ≤ hi := by simp [inB]

theorem node_any (n : Int) (w : World) : Calls Tryd.prog 28 #[.int .i64 n] w fun e w' => e = .returned (.bool (nodeB n)) ∧ w = w' := by
  unfold nodeB
  by_cases h1 : 0 ≤ n
  · by_cases h2 : n < 16
    · have e1 : decide (0 ≤ n) = true := by simpa using h1
      have e2 : decide (n < 16) = true := by simpa using h2
      go_enter Tryd.func28, Tryd.ntmps28
      go_wp2
      go_ret
      exact ⟨by simp [e1, e2], rfl⟩
    · have e1 : decide (0 ≤ n) = true := by simpa using h1
      have e2 : decide (n < 16) = false := by simpa using h2
      go_enter Tryd.func28, Tryd.ntmps28
      go_wp2
      go_ret
      exact ⟨by simp [e1, e2], rfl⟩
  · have e1 : decide (0 ≤ n) = false := by simpa using h1
    go_enter Tryd.func28, Tryd.ntmps28
    go_wp2
    go_ret
    exact ⟨by simp [e1], rfl⟩
theorem within_any (x lo hi : Int) (w : World) : Calls Tryd.prog 29 #[.int .i64 x, .int .i64 lo, .int .i64 hi] w fun e w' => e = .returned (.bool (inB x lo hi)) ∧ w = w' := by
  unfold inB
  by_cases h1 : lo ≤ x
  · by_cases h2 : x ≤ hi
    · have e1 : decide (lo ≤ x) = true := by simpa using h1
      have e2 : decide (x ≤ hi) = true := by simpa using h2
      go_enter Tryd.func29, Tryd.ntmps29
      go_wp2
      go_ret
      exact ⟨by simp [e1, e2], rfl⟩
    · have e1 : decide (lo ≤ x) = true := by simpa using h1
      have e2 : decide (x ≤ hi) = false := by simpa using h2
      go_enter Tryd.func29, Tryd.ntmps29
      go_wp2
      go_ret
      exact ⟨by simp [e1, e2], rfl⟩
  · have e1 : decide (lo ≤ x) = false := by simpa using h1
    go_enter Tryd.func29, Tryd.ntmps29
    go_wp2
    go_ret
    exact ⟨by simp [e1], rfl⟩
theorem flow_any (x : Int) (w : World) : Calls Tryd.prog 39 #[.int .i64 x] w fun e w' => e = .returned (.bool (flowB x)) ∧ w = w' := by
  have hcon := fun W => within_any x (-2147483647) 2147483647 W
  unfold flowB
  generalize inB x (-2147483647) 2147483647 = b at *
  go_enter Tryd.func39, Tryd.ntmps39
  go_wp2_with (refine (hcon _).mono ?_; rintro e w' ⟨rfl, rfl⟩)
  go_ret
  exact ⟨rfl, rfl⟩

theorem rnode_any (n : Int) (w : World) : Calls Tryd.prog 30 #[.int .i64 n] w fun e w' => e = .returned (.bool (nodeB n)) ∧ w = w' := by
  unfold nodeB
  by_cases h1 : 0 ≤ n
  · by_cases h2 : n < 16
    · have e1 : decide (0 ≤ n) = true := by simpa using h1
      have e2 : decide (n < 16) = true := by simpa using h2
      go_enter Tryd.func30, Tryd.ntmps30
      go_wp2
      go_ret
      exact ⟨by simp [e1, e2], rfl⟩
    · have e1 : decide (0 ≤ n) = true := by simpa using h1
      have e2 : decide (n < 16) = false := by simpa using h2
      go_enter Tryd.func30, Tryd.ntmps30
      go_wp2
      go_ret
      exact ⟨by simp [e1, e2], rfl⟩
  · have e1 : decide (0 ≤ n) = false := by simpa using h1
    go_enter Tryd.func30, Tryd.ntmps30
    go_wp2
    go_ret
    exact ⟨by simp [e1], rfl⟩
theorem rwithin_any (x lo hi : Int) (w : World) : Calls Tryd.prog 31 #[.int .i64 x, .int .i64 lo, .int .i64 hi] w fun e w' => e = .returned (.bool (inB x lo hi)) ∧ w = w' := by
  unfold inB
  by_cases h1 : lo ≤ x
  · by_cases h2 : x ≤ hi
    · have e1 : decide (lo ≤ x) = true := by simpa using h1
      have e2 : decide (x ≤ hi) = true := by simpa using h2
      go_enter Tryd.func31, Tryd.ntmps31
      go_wp2
      go_ret
      exact ⟨by simp [e1, e2], rfl⟩
    · have e1 : decide (lo ≤ x) = true := by simpa using h1
      have e2 : decide (x ≤ hi) = false := by simpa using h2
      go_enter Tryd.func31, Tryd.ntmps31
      go_wp2
      go_ret
      exact ⟨by simp [e1, e2], rfl⟩
  · have e1 : decide (lo ≤ x) = false := by simpa using h1
    go_enter Tryd.func31, Tryd.ntmps31
    go_wp2
    go_ret
    exact ⟨by simp [e1], rfl⟩
theorem rflow_any (x : Int) (w : World) : Calls Tryd.prog 41 #[.int .i64 x] w fun e w' => e = .returned (.bool (flowB x)) ∧ w = w' := by
  have hcon := fun W => rwithin_any x (-2147483647) 2147483647 W
  unfold flowB
  generalize inB x (-2147483647) 2147483647 = b at *
  go_enter Tryd.func41, Tryd.ntmps41
  go_wp2_with (refine (hcon _).mono ?_; rintro e w' ⟨rfl, rfl⟩)
  go_ret
  exact ⟨rfl, rfl⟩

structure Xt where
  has : Bool
  val : Int
  org : Int
  age : Int
abbrev Xt.cells (e : Xt) : List Value := [.bool e.has, .int .i64 e.val, .int .i64 e.org, .int .i64 e.age]
def Xt.zeroB (e : Xt) : Bool := !e.has && e.val == 0 && e.org == 0 && e.age == 0
def extB (e : Xt) : Bool := if e.has then flowB e.val && nodeB e.org && inB e.age 0 63 else e.val == 0 && e.org == 0 && e.age == 0
def zeroX : Xt := ⟨false, 0, 0, 0⟩
theorem Xt.zero_iff {e : Xt} : e.zeroB = true ↔ e = zeroX := by
  obtain ⟨h, v, o, a⟩ := e
  cases h <;> simp [Xt.zeroB, zeroX]
  omega
theorem extB_zero : extB zeroX = true := rfl
theorem eq_ext (a1 b1 : Bool) (a2 a3 a4 b2 b3 b4 : Int) (W : World) : (Op.equalIn 9999 36 (.agg #[.bool a1, .int .i64 a2, .int .i64 a3, .int .i64 a4]) (.agg #[.bool b1, .int .i64 b2, .int .i64 b3, .int .i64 b4])).run Tryd.prog W = .ok (a1 == b1 && a2 == b2 && a3 == b3 && a4 == b4) W := by
  by_cases h1 : a1 = b1 <;> by_cases h2 : a2 = b2 <;> by_cases h3 : a3 = b3 <;> by_cases h4 : a4 = b4 <;> simp [go_sem, h1, h2, h3, h4]

set_option maxHeartbeats 1000000 in
theorem ext_any (e : Xt) (w : World) : Calls Tryd.prog 40 #[.agg e.cells.toArray] w fun x w' => x = .returned (.bool (extB e)) ∧ Below w.heap.size w w' := by
  obtain ⟨h, v, o, a⟩ := e
  have hn := fun W => node_any o W
  have hw := fun W => within_any a 0 63 W
  have hf := fun W => flow_any v W
  cases h
  · by_cases h1 : v = 0 ∧ o = 0 ∧ a = 0
    · obtain ⟨rfl, rfl, rfl⟩ := h1
      clear hn hw hf
      go_enter Tryd.func40, Tryd.ntmps40
      go_wp2
      go_ret
      exact ⟨rfl, (Below.refl _ _).alloc (Nat.le_refl _) _⟩
    · have hx : ∀ W, (binOp .eql 36 (.agg #[.bool false, .int .i64 v, .int .i64 o, .int .i64 a]) (.agg #[.bool false, .int .i64 0, .int .i64 0, .int .i64 0])).run Tryd.prog W = .ok (.bool false) W := by
        intro W
        rw [run_eql_struct]
        rcases (show v ≠ 0 ∨ (v = 0 ∧ o ≠ 0) ∨ (v = 0 ∧ o = 0 ∧ a ≠ 0) by omega) with h2 | ⟨h2, h3⟩ | ⟨h2, h3, h4⟩
        · simp [go_sem, h2]
        · simp [go_sem, h2, h3]
        · simp [go_sem, h2, h3, h4]
      have HR : Hid (extB ⟨false, v, o, a⟩ = false) := by
        show _ = _
        simp [extB]
        intro h2 h3 h4
        exact h1 ⟨h2, h3, h4⟩
      clear hn hw hf h1
      go_enter Tryd.func40, Tryd.ntmps40
      go_wp2
      go_ret
      rw [HR.out]
      exact ⟨rfl, (Below.refl _ _).alloc (Nat.le_refl _) _⟩
  · have HR : Hid (extB ⟨true, v, o, a⟩ = (flowB v && nodeB o && inB a 0 63)) := rfl
    generalize inB a 0 63 = b3 at *
    generalize nodeB o = b2 at *
    generalize flowB v = b1 at *
    cases b1
    · clear hn hw
      go_enter Tryd.func40, Tryd.ntmps40
      go_wp2_with (refine (hf _).mono ?_; rintro e w' ⟨rfl, rfl⟩)
      go_ret
      rw [HR.out]
      exact ⟨rfl, (Below.refl _ _).alloc (Nat.le_refl _) _⟩
    · cases b2
      · clear hw
        go_enter Tryd.func40, Tryd.ntmps40
        go_wp2_with (first | (go_at_call 39; refine (hf _).mono ?_; rintro e w' ⟨rfl, rfl⟩) | (refine (hn _).mono ?_; rintro e w' ⟨rfl, rfl⟩))
        go_ret
        rw [HR.out]
        exact ⟨rfl, (Below.refl _ _).alloc (Nat.le_refl _) _⟩
      · go_enter Tryd.func40, Tryd.ntmps40
        go_wp2_with (first | (go_at_call 39; refine (hf _).mono ?_; rintro e w' ⟨rfl, rfl⟩) | (go_at_call 28; refine (hn _).mono ?_; rintro e w' ⟨rfl, rfl⟩) | (refine (hw _).mono ?_; rintro e w' ⟨rfl, rfl⟩))
        go_ret
        rw [HR.out]
        exact ⟨by first | rfl | simp, (Below.refl _ _).alloc (Nat.le_refl _) _⟩

set_option maxHeartbeats 1000000 in
theorem rext_any (e : Xt) (w : World) : Calls Tryd.prog 42 #[.agg e.cells.toArray] w fun x w' => x = .returned (.bool (extB e)) ∧ Below w.heap.size w w' := by
  obtain ⟨h, v, o, a⟩ := e
  have hn := fun W => rnode_any o W
  have hw := fun W => rwithin_any a 0 63 W
  have hf := fun W => rflow_any v W
  cases h
  · by_cases h1 : v = 0 ∧ o = 0 ∧ a = 0
    · obtain ⟨rfl, rfl, rfl⟩ := h1
      clear hn hw hf
      go_enter Tryd.func42, Tryd.ntmps42
      go_wp2
      go_ret
      exact ⟨rfl, (Below.refl _ _).alloc (Nat.le_refl _) _⟩
    · have hx : ∀ W, (binOp .eql 36 (.agg #[.bool false, .int .i64 v, .int .i64 o, .int .i64 a]) (.agg #[.bool false, .int .i64 0, .int .i64 0, .int .i64 0])).run Tryd.prog W = .ok (.bool false) W := by
        intro W
        rw [run_eql_struct]
        rcases (show v ≠ 0 ∨ (v = 0 ∧ o ≠ 0) ∨ (v = 0 ∧ o = 0 ∧ a ≠ 0) by omega) with h2 | ⟨h2, h3⟩ | ⟨h2, h3, h4⟩
        · simp [go_sem, h2]
        · simp [go_sem, h2, h3]
        · simp [go_sem, h2, h3, h4]
      have HR : Hid (extB ⟨false, v, o, a⟩ = false) := by
        show _ = _
        simp [extB]
        intro h2 h3 h4
        exact h1 ⟨h2, h3, h4⟩
      clear hn hw hf h1
      go_enter Tryd.func42, Tryd.ntmps42
      go_wp2
      go_ret
      rw [HR.out]
      exact ⟨rfl, (Below.refl _ _).alloc (Nat.le_refl _) _⟩
  · have HR : Hid (extB ⟨true, v, o, a⟩ = (flowB v && nodeB o && inB a 0 63)) := rfl
    generalize inB a 0 63 = b3 at *
    generalize nodeB o = b2 at *
    generalize flowB v = b1 at *
    cases b1
    · clear hn hw
      go_enter Tryd.func42, Tryd.ntmps42
      go_wp2_with (refine (hf _).mono ?_; rintro e w' ⟨rfl, rfl⟩)
      go_ret
      rw [HR.out]
      exact ⟨rfl, (Below.refl _ _).alloc (Nat.le_refl _) _⟩
    · cases b2
      · clear hw
        go_enter Tryd.func42, Tryd.ntmps42
        go_wp2_with (first | (go_at_call 41; refine (hf _).mono ?_; rintro e w' ⟨rfl, rfl⟩) | (refine (hn _).mono ?_; rintro e w' ⟨rfl, rfl⟩))
        go_ret
        rw [HR.out]
        exact ⟨rfl, (Below.refl _ _).alloc (Nat.le_refl _) _⟩
      · go_enter Tryd.func42, Tryd.ntmps42
        go_wp2_with (first | (go_at_call 41; refine (hf _).mono ?_; rintro e w' ⟨rfl, rfl⟩) | (go_at_call 30; refine (hn _).mono ?_; rintro e w' ⟨rfl, rfl⟩) | (refine (hw _).mono ?_; rintro e w' ⟨rfl, rfl⟩))
        go_ret
        rw [HR.out]
        exact ⟨by first | rfl | simp, (Below.refl _ _).alloc (Nat.le_refl _) _⟩


end Go.Proofs.YtgnpjenpehfjbaaDoor
