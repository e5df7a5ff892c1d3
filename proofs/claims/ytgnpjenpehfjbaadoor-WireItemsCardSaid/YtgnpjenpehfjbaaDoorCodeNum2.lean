/- Size, own, Number, folded, Signed. -/
import Derived.Test.YtgnpjenpehfjbaaDoorCodeNum
namespace Go.Proofs.YtgnpjenpehfjbaaDoor
open Go.RowKit

set_option maxRecDepth 100000 in
theorem code_own (v : Value) (l : List UInt8) (m : Nat) (w : World) (hb : Bts w w.heap.size v l) (hl : l.length ≤ 1000000000000) (hm : m ≤ 1000000000000) :
    Calls Tryd.prog 75 #[v, .int .i64 (m : Int)] w fun e w' => ∃ v', e = .returned v' ∧ Own w' w.heap.size v' l ∧ Below w.heap.size w w' := by
  obtain ⟨ao, cap, hv, _⟩ := id hb
  have HB := Lib.hid hb
  subst hv
  clear hb
  generalize hn : l.length = n at *
  have HN := Lib.hid hn
  clear hn
  obtain ⟨i0, hi, hz0, hz1, hz2⟩ := info_parts info_u8
  go_enter Tryd.func75, Tryd.ntmps75
  go_wp2_with (at_make; refine wpList_make_own _ rfl _ _ 27 rfl w.heap.size 5 i0 (.int .u8 0) 1 Tryd.underlying27 hi hz0 hz1 _ _ _ (n + m) rfl rfl (by omega) (by rw [hz2]; omega) (by unfold maxLen; omega) (by omega) ?_)
  intro w1 hown hgrow
  have hB1 : Below w.heap.size w w1 := (Below.refl w.heap.size w).grown hgrow (Nat.le_refl _) (fun k hk => by cases hk)
  have hown1 : Own w1 w.heap.size _ [] := hown
  have hb1 := HB.out.below hB1 hB1.size
  have hs1 := hB1.size
  go_wp2_with (at_builtin; (refine wpList_append_bts rfl _ _ rfl w.heap.size _ [] rfl hown1 _ l w1.heap.size rfl hb1 (by rw [HN.out]; simp; omega) hs1 ?_))
  intro v2 w2 hown2 hg2 _
  have hB2 : Below w.heap.size w w2 := hB1.grown hg2 hs1 (fun j hj => (hown1.lt j hj).1)
  clear hown hgrow hown1 hb1 hg2
  go_wp2
  go_ret
  exact ⟨_, rfl, hown2, hB2⟩

/-- any number as one from 0 on -/
def zig (y : Int) : Nat := if 0 ≤ y then (2 * y).toNat else (-2 * y - 1).toNat

theorem ofInt_nat64 (z : Nat) : BitVec.ofInt IntKind.u64.bits (z : Int) = (BitVec.ofNat 64 z : BitVec 64) := by
  apply BitVec.eq_of_toNat_eq
  show (BitVec.ofInt 64 (z : Int)).toNat = (BitVec.ofNat 64 z : BitVec 64).toNat
  rw [BitVec.toNat_ofInt, BitVec.toNat_ofNat]; omega
theorem wrap_bv64 (x : BitVec 64) : IntKind.u64.wrap (x.toNat : Int) = (x.toNat : Int) := by
  have := x.isLt
  rw [IntKind.wrap_u64]; omega
theorem bits_and_u64 (x y : Nat) (hx : x < 18446744073709551616) (hy : y < 18446744073709551616) : bits .and .u64 (x : Int) (y : Int) = ((x &&& y : Nat) : Int) := by
  unfold bits
  rw [ofInt_nat64, ofInt_nat64]
  refine (wrap_bv64 ((BitVec.ofNat 64 x : BitVec 64) &&& (BitVec.ofNat 64 y : BitVec 64))).trans ?_
  rw [BitVec.toNat_and, BitVec.toNat_ofNat, BitVec.toNat_ofNat, Nat.mod_eq_of_lt (by omega), Nat.mod_eq_of_lt (by omega)]
theorem bits_or_u64 (x y : Nat) (hx : x < 18446744073709551616) (hy : y < 18446744073709551616) : bits .or .u64 (x : Int) (y : Int) = ((x ||| y : Nat) : Int) := by
  unfold bits
  rw [ofInt_nat64, ofInt_nat64]
  refine (wrap_bv64 ((BitVec.ofNat 64 x : BitVec 64) ||| (BitVec.ofNat 64 y : BitVec 64))).trans ?_
  rw [BitVec.toNat_or, BitVec.toNat_ofNat, BitVec.toNat_ofNat, Nat.mod_eq_of_lt (by omega), Nat.mod_eq_of_lt (by omega)]
theorem xor_u64_zero (m : Nat) (h1 : m < 18446744073709551616) : bits .xor .u64 (m : Int) 0 = m := by
  unfold bits
  rw [show (0 : Int) = ((0 : Nat) : Int) from rfl, ofInt_nat64, ofInt_nat64]
  refine (wrap_bv64 ((BitVec.ofNat 64 m : BitVec 64) ^^^ (BitVec.ofNat 64 0 : BitVec 64))).trans ?_
  simp
  omega
theorem xor_u64_ones (m : Nat) (h1 : m < 18446744073709551616) : bits .xor .u64 (m : Int) 18446744073709551615 = ((18446744073709551615 - m : Nat) : Int) := by
  unfold bits
  rw [show (18446744073709551615 : Int) = ((18446744073709551615 : Nat) : Int) from rfl, ofInt_nat64, ofInt_nat64]
  refine (wrap_bv64 ((BitVec.ofNat 64 m : BitVec 64) ^^^ (BitVec.ofNat 64 18446744073709551615 : BitVec 64))).trans ?_
  rw [show (BitVec.ofNat 64 18446744073709551615 : BitVec 64) = BitVec.allOnes 64 by decide, BitVec.xor_allOnes, BitVec.toNat_not, BitVec.toNat_ofNat, Nat.mod_eq_of_lt (by omega)]

set_option maxRecDepth 100000 in
theorem code_folded (y : Int) (w : World) (h0 : -9223372036854775808 ≤ y) (h1 : y < 9223372036854775808) :
    Calls Tryd.prog 53 #[.int .i64 y] w fun e w' => e = .returned (.int .u64 (zig y : Nat)) ∧ w' = w := by
  by_cases hy : 0 ≤ y
  · have e1 : IntKind.u64.wrap y = y := by rw [IntKind.wrap_u64]; omega
    have e2 : (y / 9223372036854775808 : Int) = 0 := by omega
    have e3 : bits .xor .u64 (y * 2) 0 = (zig y : Nat) := by
      have h := xor_u64_zero (2 * y).toNat (by omega)
      unfold zig
      rw [if_pos hy, ← h]
      congr 1; omega
    go_enter Tryd.func53, Tryd.ntmps53
    go_wp2
    go_ret
    exact ⟨rfl, rfl⟩
  · have e1 : IntKind.u64.wrap y = y + 18446744073709551616 := by rw [IntKind.wrap_u64]; omega
    have e2 : (y / 9223372036854775808 : Int) = -1 := by omega
    have e4 : IntKind.u64.wrap ((y + 18446744073709551616) * 2) = 2 * y + 18446744073709551616 := by rw [IntKind.wrap_u64]; omega
    have e5 : IntKind.u64.wrap (-1) = 18446744073709551615 := by rw [IntKind.wrap_u64]; omega
    have e3 : bits .xor .u64 (2 * y + 18446744073709551616) 18446744073709551615 = (zig y : Nat) := by
      have h := xor_u64_ones (2 * y + 18446744073709551616).toNat (by omega)
      have h2 : zig y = 18446744073709551615 - (2 * y + 18446744073709551616).toNat := by unfold zig; rw [if_neg hy]; omega
      rw [h2, ← h]
      congr 1; omega
    go_enter Tryd.func53, Tryd.ntmps53
    go_wp2
    go_ret
    exact ⟨rfl, rfl⟩

theorem zig_lt (y : Int) (h0 : -9223372036854775808 ≤ y) (h1 : y < 9223372036854775808) : zig y < 18446744073709551616 := by
  unfold zig
  by_cases hy : 0 ≤ y
  · rw [if_pos hy]; omega
  · rw [if_neg hy]; omega

end Go.Proofs.YtgnpjenpehfjbaaDoor
