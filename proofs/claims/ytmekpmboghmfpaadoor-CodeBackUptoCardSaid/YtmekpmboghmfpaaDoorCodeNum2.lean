/- Size, own, Number, folded, Signed. -/
import Derived.Test.YtmekpmboghmfpaaDoorCodeNum
namespace Go.Proofs.YtmekpmboghmfpaaDoor
open Go.RowKit

set_option maxRecDepth 100000 in
theorem code_Size (x : Nat) (w : World) (hx : x < 18446744073709551616) :
    Calls Tryd.prog 46 #[.int .u64 (x : Int)] w fun e w' => e = .returned (.int .i64 ((vint x).length : Nat)) ∧ w' = w := by
  go_enter Tryd.func46, Tryd.ntmps46
  go_wp2_with fail
  go_loopw [0, 3] (fun y n wr => ∃ (f z k : Nat), y = .int .u64 (z : Int) ∧ n = .int .i64 (k : Int) ∧ z < 18446744073709551616 ∧ k ≤ 11 ∧ Hid (z < 128 ^ f) ∧ Hid (k + (vintF f z).length = (vint x).length + 1) ∧ Hid (k + f = 11) ∧ wr = w) (fun y _ _ => (intOf y).toNat)
  case atStart => exact ⟨10, x, 1, rfl, rfl, hx, by omega, Nat.lt_of_lt_of_le hx (by decide), by show _ = _; unfold vint; omega, rfl, rfl⟩
  case round =>
    obtain ⟨f, z, k, rfl, rfl, hz, hk, HZ, HP, HL, rfl⟩ := hrel
    by_cases h127 : 127 < z
    · obtain ⟨f, rfl⟩ : ∃ f', f = f' + 1 := by
        cases f with
        | zero => have := HZ.out; simp at this; omega
        | succ f => exact ⟨f, rfl⟩
      have hst := vintF_more f z h127
      have hP := HP.out
      rw [hst, List.length_cons] at hP
      have HP2 := Lib.hid hP
      have HZ2 : Hid (z / 128 < 128 ^ f) := by
        have := HZ.out
        rw [Nat.pow_succ] at this
        exact (Nat.div_lt_iff_lt_mul (by decide)).2 this
      have hk2 : k ≤ 10 := by have := HL.out; omega
      clear hst hP HP HZ
      go_wp2
      go_roundw
      case rel => exact ⟨f, z / 128, k + 1, by go_num, by go_num, by omega, by omega, HZ2, by have := HP2.out; show _ = _; omega, by have := HL.out; show _ = _; omega, trivial⟩
      case measure => simp [intOf]; omega
    · have hst := vintF_last f z h127
      have hP := HP.out
      rw [hst, List.length_singleton] at hP
      have hR := Lib.hid (show k = (vint x).length by omega)
      clear hst hP HP HZ
      go_wp2
      go_ret
      rw [← hR.out]
      exact ⟨rfl, rfl⟩

set_option maxRecDepth 100000 in
theorem code_own (v : Value) (l : List UInt8) (m : Nat) (w : World) (hb : Bts w w.heap.size v l) (hl : l.length ≤ 1000000000000) (hm : m ≤ 1000000000000) :
    Calls Tryd.prog 52 #[v, .int .i64 (m : Int)] w fun e w' => ∃ v', e = .returned v' ∧ Own w' w.heap.size v' l ∧ Below w.heap.size w w' := by
  obtain ⟨ao, cap, hv, _⟩ := id hb
  have HB := Lib.hid hb
  subst hv
  clear hb
  generalize hn : l.length = n at *
  have HN := Lib.hid hn
  clear hn
  obtain ⟨i0, hi, hz0, hz1, hz2⟩ := info_parts info_u8
  go_enter Tryd.func52, Tryd.ntmps52
  go_wp2_with (at_make; refine wpList_make_own _ rfl _ _ 22 rfl w.heap.size 5 i0 (.int .u8 0) 1 Tryd.underlying22 hi hz0 hz1 _ _ _ (n + m) rfl rfl (by omega) (by rw [hz2]; omega) (by unfold maxLen; omega) (by omega) ?_)
  intro w1 hown hgrow
  have hB1 : Below w.heap.size w w1 := (Below.refl w.heap.size w).grown hgrow (Nat.le_refl _) (fun k hk => by cases hk)
  have hown1 : Own w1 w.heap.size _ [] := hown
  have hb1 := HB.out.below hB1 hB1.size
  have hs1 := hB1.size
  go_wp2_with (at_builtin; (refine wpList_append_bts rfl _ _ rfl w.heap.size _ [] rfl hown1 _ l w1.heap.size rfl hb1 (by rw [HN.out]; simp; omega) hs1 ?_))
  intro v2 w2 hown2 hg2 _
  have hB2 : Below w.heap.size w w2 := hB1.grown hg2 hs1 (fun j hj => (hown1.lt j hj).1)
  clear hown hgrow hown1 hb1 hg2
  go_wp2
  go_ret
  exact ⟨_, rfl, hown2, hB2⟩

set_option maxRecDepth 100000 in
theorem code_Number (v : Value) (l : List UInt8) (x : Nat) (w : World) (hx : x < 18446744073709551616) (hb : Bts w w.heap.size v l) (hl : l.length ≤ 1000000000) :
    Calls Tryd.prog 53 #[v, .int .u64 (x : Int)] w fun e w' => ∃ v', e = .returned v' ∧ Own w' w.heap.size v' (l ++ vint x) ∧ Below w.heap.size w w' := by
  have c1 := code_own v l 10 w hb (by omega) (by omega)
  go_enter Tryd.func53, Tryd.ntmps53
  go_wp2_with fail
  refine c1.mono ?_
  rintro e w1 ⟨v1, rfl, hown1, hB1⟩
  have c2 := code_number v1 l x w1 w.heap.size hx hown1 hB1.size (by omega)
  go_wp2_with fail
  refine c2.mono ?_
  rintro e w2 ⟨v2, rfl, hown2, hB2⟩
  go_wp2
  go_ret
  exact ⟨_, rfl, hown2, hB1.trans hB2⟩

/-- any number as one from 0 on -/
def zig (y : Int) : Nat := if 0 ≤ y then (2 * y).toNat else (-2 * y - 1).toNat

theorem ofInt_nat64 (z : Nat) : BitVec.ofInt IntKind.u64.bits (z : Int) = (BitVec.ofNat 64 z : BitVec 64) := by
  apply BitVec.eq_of_toNat_eq
  show (BitVec.ofInt 64 (z : Int)).toNat = (BitVec.ofNat 64 z : BitVec 64).toNat
  rw [BitVec.toNat_ofInt, BitVec.toNat_ofNat]; omega
theorem wrap_bv64 (x : BitVec 64) : IntKind.u64.wrap (x.toNat : Int) = (x.toNat : Int) := by
  have := x.isLt
  rw [IntKind.wrap_u64]; omega
theorem bits_and_u64 (x y : Nat) (hx : x < 18446744073709551616) (hy : y < 18446744073709551616) : bits .and .u64 (x : Int) (y : Int) = ((x &&& y : Nat) : Int) := by
  unfold bits
  rw [ofInt_nat64, ofInt_nat64]
  refine (wrap_bv64 ((BitVec.ofNat 64 x : BitVec 64) &&& (BitVec.ofNat 64 y : BitVec 64))).trans ?_
  rw [BitVec.toNat_and, BitVec.toNat_ofNat, BitVec.toNat_ofNat, Nat.mod_eq_of_lt (by omega), Nat.mod_eq_of_lt (by omega)]
theorem bits_or_u64 (x y : Nat) (hx : x < 18446744073709551616) (hy : y < 18446744073709551616) : bits .or .u64 (x : Int) (y : Int) = ((x ||| y : Nat) : Int) := by
  unfold bits
  rw [ofInt_nat64, ofInt_nat64]
  refine (wrap_bv64 ((BitVec.ofNat 64 x : BitVec 64) ||| (BitVec.ofNat 64 y : BitVec 64))).trans ?_
  rw [BitVec.toNat_or, BitVec.toNat_ofNat, BitVec.toNat_ofNat, Nat.mod_eq_of_lt (by omega), Nat.mod_eq_of_lt (by omega)]
theorem xor_u64_zero (m : Nat) (h1 : m < 18446744073709551616) : bits .xor .u64 (m : Int) 0 = m := by
  unfold bits
  rw [show (0 : Int) = ((0 : Nat) : Int) from rfl, ofInt_nat64, ofInt_nat64]
  refine (wrap_bv64 ((BitVec.ofNat 64 m : BitVec 64) ^^^ (BitVec.ofNat 64 0 : BitVec 64))).trans ?_
  simp
  omega
theorem xor_u64_ones (m : Nat) (h1 : m < 18446744073709551616) : bits .xor .u64 (m : Int) 18446744073709551615 = ((18446744073709551615 - m : Nat) : Int) := by
  unfold bits
  rw [show (18446744073709551615 : Int) = ((18446744073709551615 : Nat) : Int) from rfl, ofInt_nat64, ofInt_nat64]
  refine (wrap_bv64 ((BitVec.ofNat 64 m : BitVec 64) ^^^ (BitVec.ofNat 64 18446744073709551615 : BitVec 64))).trans ?_
  rw [show (BitVec.ofNat 64 18446744073709551615 : BitVec 64) = BitVec.allOnes 64 by decide, BitVec.xor_allOnes, BitVec.toNat_not, BitVec.toNat_ofNat, Nat.mod_eq_of_lt (by omega)]

set_option maxRecDepth 100000 in
theorem code_folded (y : Int) (w : World) (h0 : -9223372036854775808 ≤ y) (h1 : y < 9223372036854775808) :
    Calls Tryd.prog 36 #[.int .i64 y] w fun e w' => e = .returned (.int .u64 (zig y : Nat)) ∧ w' = w := by
  by_cases hy : 0 ≤ y
  · have e1 : IntKind.u64.wrap y = y := by rw [IntKind.wrap_u64]; omega
    have e2 : (y / 9223372036854775808 : Int) = 0 := by omega
    have e3 : bits .xor .u64 (y * 2) 0 = (zig y : Nat) := by
      have h := xor_u64_zero (2 * y).toNat (by omega)
      unfold zig
      rw [if_pos hy, ← h]
      congr 1; omega
    go_enter Tryd.func36, Tryd.ntmps36
    go_wp2
    go_ret
    exact ⟨rfl, rfl⟩
  · have e1 : IntKind.u64.wrap y = y + 18446744073709551616 := by rw [IntKind.wrap_u64]; omega
    have e2 : (y / 9223372036854775808 : Int) = -1 := by omega
    have e4 : IntKind.u64.wrap ((y + 18446744073709551616) * 2) = 2 * y + 18446744073709551616 := by rw [IntKind.wrap_u64]; omega
    have e5 : IntKind.u64.wrap (-1) = 18446744073709551615 := by rw [IntKind.wrap_u64]; omega
    have e3 : bits .xor .u64 (2 * y + 18446744073709551616) 18446744073709551615 = (zig y : Nat) := by
      have h := xor_u64_ones (2 * y + 18446744073709551616).toNat (by omega)
      have h2 : zig y = 18446744073709551615 - (2 * y + 18446744073709551616).toNat := by unfold zig; rw [if_neg hy]; omega
      rw [h2, ← h]
      congr 1; omega
    go_enter Tryd.func36, Tryd.ntmps36
    go_wp2
    go_ret
    exact ⟨rfl, rfl⟩

theorem zig_lt (y : Int) (h0 : -9223372036854775808 ≤ y) (h1 : y < 9223372036854775808) : zig y < 18446744073709551616 := by
  unfold zig
  by_cases hy : 0 ≤ y
  · rw [if_pos hy]; omega
  · rw [if_neg hy]; omega

set_option maxRecDepth 100000 in
theorem code_Signed (v : Value) (l : List UInt8) (y : Int) (w : World) (h0 : -9223372036854775808 ≤ y) (h1 : y < 9223372036854775808) (hb : Bts w w.heap.size v l) (hl : l.length ≤ 1000000000) :
    Calls Tryd.prog 45 #[v, .int .i64 y] w fun e w' => ∃ v', e = .returned v' ∧ Own w' w.heap.size v' (l ++ vint (zig y)) ∧ Below w.heap.size w w' := by
  have c1 := code_folded y w h0 h1
  have c2 := code_Number v l (zig y) w (zig_lt y h0 h1) hb hl
  go_enter Tryd.func45, Tryd.ntmps45
  go_wp2_with fail
  refine c1.mono ?_
  rintro e w1 ⟨rfl, rfl⟩
  go_wp2_with fail
  refine c2.mono ?_
  rintro e w2 ⟨v2, rfl, hown2, hB2⟩
  go_wp2
  go_ret
  exact ⟨_, rfl, hown2, hB2⟩

end Go.Proofs.YtmekpmboghmfpaaDoor
