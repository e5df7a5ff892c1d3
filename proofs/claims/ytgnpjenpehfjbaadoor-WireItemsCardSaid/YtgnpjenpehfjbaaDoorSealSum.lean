/- What seal.Sum and the document's Sum compute: two folds over the bytes. -/
import Derived.Test.YtgnpjenpehfjbaaDoorBase
namespace Go.Proofs.YtgnpjenpehfjbaaDoor
open Go.RowKit

def lo4 (x : BitVec 32) : Nat := (x &&& 15#32).toNat
theorem lo4_lt (x : BitVec 32) : lo4 x < 16 := by
  unfold lo4
  simp only [BitVec.toNat_and]
  have : x.toNat &&& (15#32).toNat ≤ 15 := Nat.and_le_right
  omega
theorem lo4_lt_i (x : BitVec 32) : ((lo4 x : Int) < 16) = True := by
  have := lo4_lt x
  simp only [eq_iff_iff, iff_true]
  omega
theorem bits_and_u32_15 (x : BitVec 32) : bits .and .u32 (b32 x) 15 = ((lo4 x : Nat) : Int) := bits_and_u32 x 15#32
theorem bits_and_u32_1 (x : BitVec 32) : bits .and .u32 (b32 x) 1 = b32 (x &&& 1#32) := bits_and_u32 x 1#32
theorem bits_xor_u32_ones (x : BitVec 32) : bits .xor .u32 (b32 x) 4294967295 = b32 (x ^^^ 4294967295#32) := bits_xor_u32 x 4294967295#32
theorem bits_xor_u32_poly (x : BitVec 32) : bits .xor .u32 (b32 x) 3988292384 = b32 (x ^^^ 3988292384#32) := bits_xor_u32 x 3988292384#32
theorem op_shr_u32_4 (yk : IntKind) (x : BitVec 32) : Op.shift .shr .u32 (b32 x) yk 4 = pure (.int .u32 (b32 (x >>> 4))) := by
  rw [shift_shr_u32 yk _ 4 (by decide) (by decide)]
  congr 2
  unfold b32
  rw [BitVec.toNat_ushiftRight, Nat.shiftRight_eq_div_pow]
  rfl
theorem op_shr_u32_1 (yk : IntKind) (x : BitVec 32) : Op.shift .shr .u32 (b32 x) yk 1 = pure (.int .u32 (b32 (x >>> 1))) := by
  rw [shift_shr_u32 yk _ 1 (by decide) (by decide)]
  exact congrArg (fun n => pure (Value.int .u32 n)) (by unfold b32; rw [BitVec.toNat_ushiftRight, Nat.shiftRight_eq_div_pow]; rfl)
attribute [go_sem] bits_and_u32_15 bits_and_u32_1 bits_xor_u32_ones bits_xor_u32_poly lo4_lt_i
attribute [go_sem high] op_shr_u32_4 op_shr_u32_1

def tabL : List (BitVec 32) := [0x00000000#32, 0x1db71064#32, 0x3b6e20c8#32, 0x26d930ac#32, 0x76dc4190#32, 0x6b6b51f4#32, 0x4db26158#32, 0x5005713c#32,
  0xedb88320#32, 0xf00f9344#32, 0xd6d6a3e8#32, 0xcb61b38c#32, 0x9b64c2b0#32, 0x86d3d2d4#32, 0xa00ae278#32, 0xbdbdf21c#32]
def tab (n : Nat) : BitVec 32 := tabL.getD n 0
def nib (r : BitVec 32) : BitVec 32 := (r >>> 4) ^^^ tab (lo4 r)
def stepB (r : BitVec 32) (x : UInt8) : BitVec 32 := nib (nib (r ^^^ w32 x))
/-- the register behind the bytes l, begun with r -/
def crcR (r : BitVec 32) (l : List UInt8) : BitVec 32 := l.foldl stepB r
def crc (l : List UInt8) : BitVec 32 := crcR 0xffffffff#32 l ^^^ 0xffffffff#32

/-- the table, where the program has it -/
def TabOK (w : World) : Prop := ∀ i, i < 16 → w.cell? ⟨0, i, none⟩ = some (.int .u32 (b32 (tab i)))
theorem TabOK.at {w : World} (ht : TabOK w) (x : BitVec 32) : w.cell? ⟨0, lo4 x, none⟩ = some (.int .u32 (b32 (tab (lo4 x)))) := ht _ (lo4_lt x)
theorem TabOK.lt {w : World} (ht : TabOK w) : 0 < w.heap.size := World.block_lt_of_cell? w ⟨0, 0, none⟩ (ht 0 (by decide))
theorem TabOK.below {w w' : World} {B : Nat} (ht : TabOK w) (hb : Below B w w') (hB : 0 < B) : TabOK w' :=
  fun i hi => (hb.cell (p := ⟨0, i, none⟩) hB).trans (ht i hi)

theorem bits_xor_u32_max (x : BitVec 32) : bits .xor .u32 IntKind.u32.max (b32 x) = b32 (x ^^^ 0xffffffff#32) := by
  rw [BitVec.xor_comm]; exact bits_xor_u32 0xffffffff#32 x
attribute [go_sem] bits_xor_u32_max

theorem crcR_snoc (r : BitVec 32) (l : List UInt8) (k : Nat) (h : k < l.length) : crcR r (l.take (k + 1)) = stepB (crcR r (l.take k)) (l.getD k 0) := by
  unfold crcR
  rw [List.take_succ_eq_append_getElem h, List.foldl_append]
  simp [List.getD, h]

set_option maxHeartbeats 400000 in
theorem seal_Sum (v : Value) (l : List UInt8) (w : World) (B : Nat) (hb : Bts w B v l) (ht : TabOK w) :
    Calls Tryd.prog 64 #[v] w fun e w' => e = .returned (.int .u32 (b32 (crc l))) ∧ w = w' := by
  have ht' := ht.at
  clear ht
  rcases hb.form with ⟨rfl, ao, cap, rfl, _⟩ | ⟨hpos, b, off, cap, rfl, hcap, hm, hbB, hc⟩
  · clear hb
    go_enter Tryd.func64, Tryd.ntmps64
    go_wp2
    refine wp_loop_rounds 1 ?_; rw [rounds_succ]
    go_wp2
    go_ret
    exact ⟨rfl, rfl⟩
  · clear hb
    generalize hn : l.length = n at *
    have HL := Lib.hid hn
    clear hn
    go_enter Tryd.func64, Tryd.ntmps64
    go_wp2
    go_loop [3, 8] (fun r i => ∃ k : Nat, k ≤ n ∧ i = .int .i64 k ∧ r = .int .u32 (b32 (crcR 0xffffffff#32 (l.take k)))) (fun _ i => n - (intOf i).toNat)
    case atStart => exact ⟨0, Nat.zero_le _, rfl, rfl⟩
    case round =>
      obtain ⟨k, hk, rfl, rfl⟩ := hrel
      by_cases hlt : k < n
      · have hck := hc k hlt
        clear hc
        have HS := Lib.hid (crcR_snoc 0xffffffff#32 l k (by rw [HL.out]; exact hlt))
        generalize l.getD k 0 = x at *
        generalize crcR 0xffffffff#32 (l.take k) = r at *
        go_wp2
        go_round
        case rel => exact ⟨k + 1, by omega, by go_num, by rw [HS.out]; rfl⟩
        case measure => simp [intOf]; omega
      · have hkn : k = n := by omega
        go_wp2
        go_ret
        rw [List.take_of_length_le (by rw [HL.out]; omega)]
        exact ⟨rfl, by trivial⟩


def bit8 (x : UInt8) (k : Nat) : Bool := x.toNat.testBit k
def stepBit (s : BitVec 32) (b : Bool) : BitVec 32 := if ((s &&& 1#32) == 1#32) != b then (s >>> 1) ^^^ 3988292384#32 else s >>> 1
def bitsTo (s : BitVec 32) (x : UInt8) : Nat → BitVec 32
  | 0 => s
  | k + 1 => stepBit (bitsTo s x k) (bit8 x k)
def refR (r : BitVec 32) (l : List UInt8) : BitVec 32 := l.foldl (fun s x => bitsTo s x 8) r
theorem refR_snoc (r : BitVec 32) (l : List UInt8) (k : Nat) (h : k < l.length) : refR r (l.take (k + 1)) = bitsTo (refR r (l.take k)) (l.getD k 0) 8 := by
  unfold refR
  rw [List.take_succ_eq_append_getElem h, List.foldl_append]
  simp [List.getD, h]
theorem b32_one (y : BitVec 32) : (b32 y == 1) = (y == 1#32) := by
  rw [Bool.eq_iff_iff, beq_iff_eq, beq_iff_eq]
  constructor
  · intro h; exact b32_inj h
  · intro h; subst h; rfl
theorem bit8_test (x : UInt8) (j : Nat) : (bits .and .u8 ((x.toNat : Int) / 2 ^ j) 1 == 1) = bit8 x j := by
  have h1 : ((x.toNat : Int) / 2 ^ j) = ((x.toNat / 2 ^ j : Nat) : Int) := by norm_cast
  have hlt : x.toNat / 2 ^ j < 256 := Nat.lt_of_le_of_lt (Nat.div_le_self _ _) x.toNat_lt
  have h2 : bits .and .u8 ((x.toNat / 2 ^ j : Nat) : Int) 1 = (((x.toNat / 2 ^ j) % 2 : Nat) : Int) := by
    unfold bits
    have e1 : BitVec.ofInt IntKind.u8.bits ((x.toNat / 2 ^ j : Nat) : Int) = BitVec.ofNat 8 (x.toNat / 2 ^ j) := by
      apply BitVec.eq_of_toNat_eq
      show (BitVec.ofInt 8 ((x.toNat / 2 ^ j : Nat) : Int)).toNat = (BitVec.ofNat 8 (x.toNat / 2 ^ j) : BitVec 8).toNat
      rw [BitVec.toNat_ofInt, BitVec.toNat_ofNat]; omega
    have e2 : BitVec.ofInt IntKind.u8.bits (1 : Int) = BitVec.ofNat 8 1 := rfl
    rw [e1, e2]
    show IntKind.u8.wrap (((BitVec.ofNat 8 (x.toNat / 2 ^ j)) &&& (BitVec.ofNat 8 1)).toNat : Int) = _
    rw [BitVec.toNat_and]
    simp only [BitVec.toNat_ofNat, IntKind.wrap_u8]
    rw [show (1 % 2 ^ 8 : Nat) = 1 from rfl, Nat.and_one_is_mod]
    omega
  rw [h1, h2, bit8, Nat.testBit_eq_decide_div_mod_eq, Bool.eq_iff_iff, beq_iff_eq, decide_eq_true_iff]
  omega
theorem bit_yes {s : BitVec 32} {x : UInt8} {j : Nat} (h : (!(b32 (s &&& 1#32) == 1) == (bits BinOp.and IntKind.u8 ((x.toNat : Int) / 2 ^ j) 1 == 1)) = true) : stepBit s (bit8 x j) = s >>> 1 ^^^ 3988292384#32 := by
  rw [b32_one, bit8_test] at h
  unfold stepBit
  rw [if_pos]
  cases h1 : (s &&& 1#32) == 1#32 <;> cases h2 : bit8 x j <;> simp_all
theorem bit_no {s : BitVec 32} {x : UInt8} {j : Nat} (h : (!(b32 (s &&& 1#32) == 1) == (bits BinOp.and IntKind.u8 ((x.toNat : Int) / 2 ^ j) 1 == 1)) = false) : stepBit s (bit8 x j) = s >>> 1 := by
  rw [b32_one, bit8_test] at h
  unfold stepBit
  rw [if_neg]
  cases h1 : (s &&& 1#32) == 1#32 <;> cases h2 : bit8 x j <;> simp_all
theorem bitsTo_succ (r : BitVec 32) (x : UInt8) (j : Nat) : bitsTo r x (j + 1) = stepBit (bitsTo r x j) (bit8 x j) := rfl
set_option maxHeartbeats 400000 in
theorem ref_Sum0 (v : Value) (l : List UInt8) (w : World) (B : Nat) (hb : Bts w B v l) :
    Calls Tryd.prog 47 #[v] w fun e w' => e = .returned (.int .u32 (b32 (refR 0xffffffff#32 l ^^^ 0xffffffff#32))) ∧ w = w' := by
  rcases hb.form with ⟨rfl, ao, cap, rfl, _⟩ | ⟨hpos, b, off, cap, rfl, hcap, hm, hbB, hc⟩
  · clear hb
    go_enter Tryd.func47, Tryd.ntmps47
    go_wp2
    refine wp_loop_rounds 1 ?_; rw [rounds_succ]
    go_wp2
    go_ret
    exact ⟨rfl, rfl⟩
  · clear hb
    generalize hn : l.length = n at *
    have HL := Lib.hid hn
    clear hn
    go_enter Tryd.func47, Tryd.ntmps47
    go_wp2
    go_loop [3, 4] (fun r i => ∃ k : Nat, k ≤ n ∧ i = .int .i64 k ∧ r = .int .u32 (b32 (refR 0xffffffff#32 (l.take k)))) (fun _ i => n - (intOf i).toNat)
    case atStart => exact ⟨0, Nat.zero_le _, rfl, rfl⟩
    case round =>
      obtain ⟨k, hk, rfl, rfl⟩ := hrel
      by_cases hlt : k < n
      · have hck := hc k hlt
        clear hc
        have HS := Lib.hid (refR_snoc 0xffffffff#32 l k (by rw [HL.out]; exact hlt))
        generalize l.getD k 0 = x at *
        generalize refR 0xffffffff#32 (l.take k) = r at *
        go_wp2
        go_loop [3, 5, 6] (fun s i _ => ∃ j : Nat, j ≤ 8 ∧ i = .int .i64 j ∧ s = .int .u32 (b32 (bitsTo r x j))) (fun _ i _ => 8 - (intOf i).toNat)
        case atStart => exact ⟨0, Nat.zero_le _, rfl, rfl⟩
        case round =>
          obtain ⟨j, hj, rfl, rfl⟩ := hrel
          by_cases hj8 : j < 8
          · have HB := Lib.hid (bitsTo_succ r x j)
            generalize bitsTo r x j = s at *
            go_wp2
            all_goals go_round
            case rel => exact ⟨j + 1, by omega, by go_num, by rw [HB.out, bit_yes (by assumption)]⟩
            case measure => simp [intOf]; omega
            case rel => exact ⟨j + 1, by omega, by go_num, by rw [HB.out, bit_no (by assumption)]⟩
            case measure => simp [intOf]; omega
          · have : j = 8 := by omega
            subst this
            go_wp2
            go_round
            case rel => exact ⟨k + 1, by omega, by go_num, by rw [HS.out]⟩
            case measure => simp [intOf]; omega
      · have hkn : k = n := by omega
        go_wp2
        go_ret
        rw [List.take_of_length_le (by rw [HL.out]; omega)]
        exact ⟨rfl, by trivial⟩

end Go.Proofs.YtgnpjenpehfjbaaDoor
