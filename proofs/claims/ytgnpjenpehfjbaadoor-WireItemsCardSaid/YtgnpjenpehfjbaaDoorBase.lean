/- General lemmas of this seat's proofs, no statement of the seat: numbers of 32 bits as bit vectors, slices of bytes as lists, append onto a slice of the call's own. -/
import Derived.Test.YtgnpjenpehfjbaaDoorRows
import Derived.WalkKit
import Derived.WalkSpells
import Derived.WalkLawsBesides
import Derived.Lib.Hide
namespace Go.Proofs.YtgnpjenpehfjbaaDoor
open Go.RowKit

theorem wrap_u32_nat (n : Nat) (h : n < 4294967296) : IntKind.u32.wrap (n : Int) = (n : Int) := by
  simp only [IntKind.wrap_u32]; omega
theorem ofInt_toNat32 (x : BitVec 32) : BitVec.ofInt IntKind.u32.bits (x.toNat : Int) = x := by
  show BitVec.ofInt 32 (x.toNat : Int) = x
  apply BitVec.eq_of_toNat_eq; simp
/-- a number of 32 bits, closed to the walk -/
def b32 (x : BitVec 32) : Int := (x.toNat : Int)
theorem b32_inj {x y : BitVec 32} (h : b32 x = b32 y) : x = y := by
  unfold b32 at h
  exact BitVec.eq_of_toNat_eq (by omega)
theorem b32_nonneg (x : BitVec 32) : 0 ≤ b32 x := by unfold b32; omega
theorem b32_lt (x : BitVec 32) : b32 x < 4294967296 := by unfold b32; have := x.isLt; omega
theorem bits_xor_u32 (x y : BitVec 32) : bits .xor .u32 (b32 x) (b32 y) = b32 (x ^^^ y) := by
  unfold bits b32
  simp only [ofInt_toNat32]
  exact wrap_u32_nat _ (x ^^^ y).isLt
theorem bits_and_u32 (x y : BitVec 32) : bits .and .u32 (b32 x) (b32 y) = b32 (x &&& y) := by
  unfold bits b32
  simp only [ofInt_toNat32]
  exact wrap_u32_nat _ (x &&& y).isLt
theorem bits_or_u32 (x y : BitVec 32) : bits .or .u32 (b32 x) (b32 y) = b32 (x ||| y) := by
  unfold bits b32
  simp only [ofInt_toNat32]
  exact wrap_u32_nat _ (x ||| y).isLt
/-- a byte as a number of 32 bits -/
def w32 (x : UInt8) : BitVec 32 := BitVec.ofNat 32 x.toNat
theorem w32_toNat (x : UInt8) : b32 (w32 x) = x.toNat := by
  have := x.toNat_lt
  unfold w32 b32; rw [BitVec.toNat_ofNat]; omega
theorem bits_xor_u32_u8 (r : BitVec 32) (x : UInt8) : bits .xor .u32 (b32 r) (x.toNat : Int) = b32 (r ^^^ w32 x) := by
  rw [← w32_toNat]; exact bits_xor_u32 _ _
theorem u8_mod32 (x : UInt8) : (x.toNat : Int) % 4294967296 = (x.toNat : Int) := by have := x.toNat_lt; omega
attribute [go_sem] u8_mod32 bits_xor_u32 bits_and_u32 bits_or_u32 bits_xor_u32_u8

/-- '|' on two numbers from 0 on -/
theorem bits_or_i64 (x y : Nat) (hx : x < 9223372036854775808) (hy : y < 9223372036854775808) : bits .or .i64 (x : Int) (y : Int) = ((x ||| y : Nat) : Int) := by
  unfold bits
  have e : ∀ z : Nat, z < 9223372036854775808 → BitVec.ofInt IntKind.i64.bits (z : Int) = (BitVec.ofNat 64 z : BitVec 64) := by
    intro z hz
    apply BitVec.eq_of_toNat_eq
    show (BitVec.ofInt 64 (z : Int)).toNat = (BitVec.ofNat 64 z : BitVec 64).toNat
    rw [BitVec.toNat_ofInt, BitVec.toNat_ofNat]; omega
  rw [e x hx, e y hy]
  show IntKind.i64.wrap (((BitVec.ofNat 64 x : BitVec 64) ||| (BitVec.ofNat 64 y : BitVec 64)).toNat : Int) = _
  rw [BitVec.toNat_or, BitVec.toNat_ofNat, BitVec.toNat_ofNat, Nat.mod_eq_of_lt (by omega), Nat.mod_eq_of_lt (by omega)]
  have : x ||| y < 2 ^ 63 := Nat.or_lt_two_pow (by omega) (by omega)
  simp only [IntKind.wrap_i64]
  omega
theorem or_byte (x y : Nat) (hx : x < 256) : x ||| (y * 256) = x + 256 * y := by
  have := Nat.two_pow_add_eq_or_of_lt (i := 8) (b := x) (by omega) y
  rw [Nat.or_comm, Nat.mul_comm y 256]
  rw [show (2 : Nat) ^ 8 = 256 from rfl] at this
  omega
theorem bdN (B : Nat) (w : World) (k : Nat) : Below B w (w.drewN k) := ⟨rfl, rfl, rfl, Nat.le_refl _, fun _ _ => rfl⟩
/-- a byte's cell -/
abbrev byteV (c : UInt8) : Value := .int .u8 (c.toNat : Int)

/-- THE SLICE VALUE v READS AS THE BYTES l, all of it below block B. -/
def Bts (w : World) (B : Nat) (v : Value) (l : List UInt8) : Prop :=
  ∃ ao cap, v = .slice ao l.length cap ∧ l.length ≤ cap ∧ l.length ≤ maxLen ∧ (ao = none → cap = 0) ∧
    (l ≠ [] → ∃ b off, ao = some ⟨b, off, none⟩ ∧ b < B ∧ ∀ i, i < l.length → w.cell? ⟨b, off + i, none⟩ = some (.int .u8 ((l.getD i 0).toNat : Int)))

theorem Bts.form {w : World} {B : Nat} {v : Value} {l : List UInt8} (h : Bts w B v l) :
    (l = [] ∧ ∃ ao cap, v = .slice ao 0 cap ∧ (ao = none → cap = 0)) ∨
    (0 < l.length ∧ ∃ b off cap, v = .slice (some ⟨b, off, none⟩) l.length cap ∧ l.length ≤ cap ∧ l.length ≤ 9223372036854775807 ∧ b < B ∧ ∀ i, i < l.length → w.cell? ⟨b, off + i, none⟩ = some (.int .u8 ((l.getD i 0).toNat : Int))) := by
  obtain ⟨ao, cap, rfl, hc, hm, hn, hl⟩ := h
  cases l with
  | nil => exact .inl ⟨rfl, ao, cap, rfl, hn⟩
  | cons x r =>
    obtain ⟨b, off, rfl, hb, hcell⟩ := hl (by simp)
    exact .inr ⟨by simp, b, off, cap, rfl, hc, by simpa [maxLen] using hm, hb, hcell⟩

theorem Bts.len {w : World} {B : Nat} {v : Value} {l : List UInt8} (h : Bts w B v l) : l.length ≤ 9223372036854775807 := by
  obtain ⟨ao, cap, rfl, hc, hm, hn, hl⟩ := h
  simpa [maxLen] using hm

theorem Bts.nil (w : World) (B : Nat) : Bts w B (.slice none 0 0) [] := ⟨none, 0, rfl, by simp, by simp, fun _ => rfl, fun h => absurd rfl h⟩

theorem Bts.below {w w' : World} {B B' : Nat} {v : Value} {l : List UInt8} (h : Bts w B v l) (hb : Below B w w') (hB : B ≤ B') : Bts w' B' v l := by
  obtain ⟨ao, cap, rfl, hc, hm, hn, hl⟩ := h
  refine ⟨ao, cap, rfl, hc, hm, hn, fun hne => ?_⟩
  obtain ⟨b, off, rfl, hbB, hcell⟩ := hl hne
  exact ⟨b, off, rfl, by omega, fun i hi => (hb.cell (p := ⟨b, off + i, none⟩) hbB).trans (hcell i hi)⟩

theorem Bts.mono {w : World} {B B' : Nat} {v : Value} {l : List UInt8} (h : Bts w B v l) (hB : B ≤ B') : Bts w B' v l := h.below (Below.refl _ _) hB

/-- the same cells in another world -/
theorem Bts.of_cells {w w' : World} {B : Nat} {v : Value} {l : List UInt8} (h : Bts w B v l) (hc : ∀ b off, b < B → w'.cell? ⟨b, off, none⟩ = w.cell? ⟨b, off, none⟩) : Bts w' B v l := by
  obtain ⟨ao, cap, rfl, hcap, hm, hn, hl⟩ := h
  refine ⟨ao, cap, rfl, hcap, hm, hn, fun hne => ?_⟩
  obtain ⟨b, off, rfl, hbB, hcell⟩ := hl hne
  exact ⟨b, off, rfl, hbB, fun i hi => (hc b _ hbB).trans (hcell i hi)⟩

/-- A slice's string. -/
theorem strOf_bytes (l : List UInt8) : strOfNums (l.map fun c => (c.toNat : Int)) = ⟨l.toArray⟩ := by
  unfold strOfNums
  congr 2
  induction l with
  | nil => rfl
  | cons a r ih => simp only [List.map_cons, List.cons.injEq]; exact ⟨by simp, ih⟩

theorem Bts.str {P : Program} {w : World} {B : Nat} {v : Value} {l : List UInt8} (h : Bts w B v l) (src e dst : TypeId) (hs : P.underlying src = some (.slice e)) (he : P.underlying e = some (.int .u8))
    (hd : P.underlying dst = some .string) : (convert src dst v).run P w = .ok (.string ⟨l.toArray⟩) w := by
  rcases h.form with ⟨rfl, ao, cap, rfl, hn⟩ | ⟨hpos, b, off, cap, rfl, hcap, hm, hb, hc⟩
  · rw [run_convert_bytes_string w src dst e _ 0 cap hs he hd]
    cases ao with
    | none => simp [Conv.bytesToString]; rfl
    | some a => rw [run_bytesToString w a 0 cap [] (by simp [loadCells, loadCellsFrom])]; rfl
  · rw [run_convert_bytes_arg w src e hs he b off l.length cap (l.map fun c => (c.toNat : Int)) (by simp) (fun i hi => by rw [hc i hi]; simp [List.getD, hi]) dst hd, strOf_bytes]

/-- b[lo:] , b[lo:hi] : in every world. -/
theorem Bts.cut {P : Program} {w : World} {B : Nat} {v : Value} {l : List UInt8} (h : Bts w B v l) (t e : TypeId) (ht : P.underlying t = some (.slice e)) (hsz : P.elem t = e) (hone : ∀ W, (sizeOf e).run P W = .ok 1 W)
    (lo hi : Nat) (h1 : lo ≤ hi) (h2 : hi ≤ l.length) : ∃ v', Bts w B v' ((l.take hi).drop lo) ∧
      (∀ (W : World) (kl kh : IntKind), (Instr.slice t v (some (.int kl (lo : Int))) (some (.int kh (hi : Int))) none).run P W = .ok v' W) := by
  obtain ⟨ao, cap, rfl, hc, hm, hn, hl⟩ := h
  have hlen : ((l.take hi).drop lo).length = hi - lo := by simp; omega
  refine ⟨.slice (if cap = lo then ao else ao.map (·.add lo)) (hi - lo) (cap - lo), ⟨_, _, by rw [hlen], by rw [hlen]; omega, by rw [hlen]; omega, ?_, ?_⟩, ?_⟩
  · intro h0
    split at h0
    · omega
    · have : ao = none := by simpa using h0
      have := hn this; omega
  · intro hne
    have hlt : lo < hi := by
      rcases Nat.lt_or_ge lo hi with h | h
      · exact h
      · exact absurd (List.eq_nil_of_length_eq_zero (by omega)) hne
    obtain ⟨b, off, rfl, hbB, hcell⟩ := hl (by intro h; subst h; simp at h2; omega)
    refine ⟨b, off + lo, ?_, hbB, fun i hi' => ?_⟩
    · rw [if_neg (by omega)]
      simp [Addr.add]
    · rw [hlen] at hi'
      rw [Nat.add_assoc, hcell (lo + i) (by omega)]
      simp [List.getD, show lo + i < hi by omega]
  · intro W kl kh
    subst hsz
    rw [run_slice_lh W t ao l.length cap ht kl kh lo hi (by omega) (by omega) (by omega)]
    rw [hone]
    simp [sliced, Result.andThen]

end Go.Proofs.YtgnpjenpehfjbaaDoor
