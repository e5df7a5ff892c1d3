/- Contracts: size, abs, common, gcd, Valid, Make, on both sides. -/
import Derived.Test.YtahfapeggijfkaaDoorFracMath
import Derived.WalkKit
import Derived.WalkSpells
import Derived.WalkLawsBesides
import Derived.Lib.Hide
import Derived.Deep.QuietTactic
import Derived.BigQuiet
namespace Go.Proofs.YtahfapeggijfkaaDoor
open Go.RowKit

theorem bdN (B : Nat) (w : World) (k : Nat) : Below B w (w.drewN k) := ⟨rfl, rfl, rfl, Nat.le_refl _, fun _ _ => rfl⟩
theorem bel_set {B b i : Nat} {v : Value} {w w' : World} (hb : B ≤ b) (h : Below B w w') : Below B w (w'.setCell ⟨b, i, none⟩ v) := h.setCell (p := ⟨b, i, none⟩) hb v
theorem bel_drew {B k : Nat} {w w' : World} (h : Below B w w') : Below B w (w'.drewN k) := h.trans (bdN _ _ _)
theorem bel_alloc {B : Nat} {o : Obj} {w w' : World} (h : Below B w w') (hb : B ≤ w'.heap.size) : Below B w (w'.alloc o) := h.alloc hb o
/-- a fraction's value -/
abbrev frV (n d : Int) : Value := .agg #[.int .i64 n, .int .i64 d]

theorem size_any (x : Int) (w : World) (h0 : -9223372036854775808 ≤ x) (h1 : x < 9223372036854775808) : Calls Tryd.prog 41 #[.int .i64 x] w fun e w' => e = .returned (.int .u64 (x.natAbs : Nat)) ∧ w' = w := by
  by_cases hx : x < 0
  · have e1 : IntKind.u64.wrap x = x + 18446744073709551616 := by rw [IntKind.wrap_u64]; omega
    have e2 : IntKind.u64.wrap (-(x + 18446744073709551616)) = ((x.natAbs : Nat) : Int) := by rw [IntKind.wrap_u64]; omega
    have HE := Lib.hid e2
    go_enter Tryd.func41, Tryd.ntmps41
    go_wp2
    go_ret
    exact ⟨rfl, rfl⟩
  · have e3 : ((x.natAbs : Nat) : Int) = x := by omega
    rw [e3]
    clear e3
    go_enter Tryd.func41, Tryd.ntmps41
    go_wp2
    go_ret
    exact ⟨rfl, rfl⟩
theorem abs_any (x : Int) (w : World) (h0 : -9223372036854775808 ≤ x) (h1 : x < 9223372036854775808) : Calls Tryd.prog 34 #[.int .i64 x] w fun e w' => e = .returned (.int .u64 (x.natAbs : Nat)) ∧ w' = w := by
  by_cases hx : x < 0
  · have e2 : ((x.natAbs : Nat) : Int) = -(x + 1) + 1 := by omega
    rw [e2]
    clear e2
    go_enter Tryd.func34, Tryd.ntmps34
    go_wp2
    go_ret
    exact ⟨rfl, rfl⟩
  · have e3 : ((x.natAbs : Nat) : Int) = x := by omega
    rw [e3]
    clear e3
    go_enter Tryd.func34, Tryd.ntmps34
    go_wp2
    go_ret
    exact ⟨rfl, rfl⟩

theorem gcd_step (a b : Nat) : Nat.gcd b (a % b) = Nat.gcd a b := by
  rw [Nat.gcd_comm a b, Nat.gcd_rec b a, Nat.gcd_comm]

set_option maxRecDepth 100000 in
theorem common_any (a b : Nat) (w : World) (ha : a < 18446744073709551616) (hb : b < 18446744073709551616) : Calls Tryd.prog 42 #[.int .u64 (a : Int), .int .u64 (b : Int)] w fun e w' => e = .returned (.int .u64 (Nat.gcd a b : Nat)) ∧ ∃ n, w' = w.drewN n := by
  generalize hG : Nat.gcd a b = G
  have HG := Lib.hid hG
  clear hG
  go_enter Tryd.func42, Tryd.ntmps42
  go_wp2_with fail
  go_loopw [0, 1] (fun x y wr => ∃ p q : Nat, x = .int .u64 (p : Int) ∧ y = .int .u64 (q : Int) ∧ p < 18446744073709551616 ∧ q < 18446744073709551616 ∧ Hid (Nat.gcd p q = G) ∧ Hid (∃ n, wr = w.drewN n)) (fun _ y _ => (intOf y).toNat)
  case atStart => exact ⟨a, b, rfl, rfl, ha, hb, HG, 0, rfl⟩
  case round =>
    obtain ⟨p, q, rfl, rfl, hp, hq, HQ, HW⟩ := hrel
    obtain ⟨n, rfl⟩ := HW.out
    by_cases hz : q = 0
    · subst hz
      have HE := Lib.hid (show p = G by have := HQ.out; simpa using this)
      go_wp2
      go_ret
      rw [← HE.out]
      exact ⟨rfl, n, rfl⟩
    · have hq0 : 0 < q := by omega
      have e1 : ((q : Int) != 0) = true := by rw [bne_iff_ne]; omega
      have e2 : ((q : Int) == 0) = false := by rw [beq_eq_false_iff_ne]; omega
      have hmod : ((p : Int) % (q : Int)) = ((p % q : Nat) : Int) := by omega
      have hml : p % q < q := Nat.mod_lt _ hq0
      have HQ2 := Lib.hid (show Nat.gcd q (p % q) = G by rw [gcd_step]; exact HQ.out)
      have HZ := Lib.hid hz
      clear hz
      go_wp2
      go_quiet (fail)
      go_wp2
      go_roundw
      case rel => exact ⟨q, p % q, rfl, by go_num, hq, by omega, HQ2, _, World.drewN_drewN _ _ _⟩
      case measure => simp [intOf]; omega

set_option maxRecDepth 100000 in
theorem gcd_any (a b : Nat) (w : World) (ha : a < 18446744073709551616) (hb : b < 18446744073709551616) : Calls Tryd.prog 33 #[.int .u64 (a : Int), .int .u64 (b : Int)] w fun e w' => e = .returned (.int .u64 (Nat.gcd a b : Nat)) ∧ w' = w := by
  generalize hG : Nat.gcd a b = G
  have HG := Lib.hid hG
  clear hG
  go_enter Tryd.func33, Tryd.ntmps33
  go_wp2_with fail
  go_loopw [0, 1] (fun x y wr => ∃ p q : Nat, x = .int .u64 (p : Int) ∧ y = .int .u64 (q : Int) ∧ p < 18446744073709551616 ∧ q < 18446744073709551616 ∧ Hid (Nat.gcd p q = G) ∧ Hid (wr = w)) (fun _ y _ => (intOf y).toNat)
  case atStart => exact ⟨a, b, rfl, rfl, ha, hb, HG, rfl⟩
  case round =>
    obtain ⟨p, q, rfl, rfl, hp, hq, HQ, HW⟩ := hrel
    by_cases hz : q = 0
    · subst hz
      have HE := Lib.hid (show p = G by have := HQ.out; simpa using this)
      go_wp2
      go_ret
      rw [← HE.out]
      exact ⟨rfl, HW.out⟩
    · have hq0 : 0 < q := by omega
      have e2 : ((q : Int) == 0) = false := by rw [beq_eq_false_iff_ne]; omega
      have hmod : ((p : Int) % (q : Int)) = ((p % q : Nat) : Int) := by omega
      have hml : p % q < q := Nat.mod_lt _ hq0
      have HQ2 := Lib.hid (show Nat.gcd q (p % q) = G by rw [gcd_step]; exact HQ.out)
      clear hz
      go_wp2
      go_roundw
      case rel => exact ⟨q, p % q, rfl, by go_num, hq, by omega, HQ2, HW⟩
      case measure => simp [intOf]; omega

end Go.Proofs.YtahfapeggijfkaaDoor
