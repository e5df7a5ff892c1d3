/- Numbers as bytes: what code.number, code.Size and the document's Number make.
Size, own, Number, folded, Signed.
The cursor behind code.Read: one byte; the reading of a number; what panics with which code.
Reading a number: code's reader.
Reading a text: code's reader.
Reading a field: code's reader.
code.Read's deferred closure: for a frame that panics with an error's number; for one that returns.
A region that draws, in which the one call panics: whatever stands ahead of it, the panic goes out with the frame's other slots as they were.
code.Read.
Writing: the document's Number, Signed, Text, Flag, Size; code's Text and Flag.
The document's reader: its number (by program: wip/tools/gen_refnum.py).
The document's reader: whole numbers, any numbers, texts, truths.
Is a field as its kind has it: code's right, the document's right (by program: wip/tools/gen_right.py).
same: rows of fields that are equal.
The contracts of the library's functions at this seat's program, laid by the kit's shelf in plain words: each one application of a theorem of the kit.
Fields as bytes: the document's Fields, code's Fields (by program: wip/tools/gen_fields.py). -/
import Derived.Test.YtgnpjenpehfjbaaDoorMA
import Derived.Laws.Shifts
import Derived.Deep.QuietTactic
import Derived.BigQuiet
import Derived.Defers
import Derived.Recover
import Derived.Tactics2
import Derived.Deep.RegionWith
import Derived.Deep.AppendLies
import Derived.Deep.RegionLaw
import Derived.Lib.AppendStr
import Derived.Outline
import Derived.Shelf.LaysM
import Derived.Shelf.Bytes.Len
import Derived.Shelf.Bytes.TryGrow
import Derived.Shelf.Bytes.GrowSliceCatch
import Derived.Shelf.Bytes.GrowSlice
import Derived.Shelf.Bytes.Bytes
import Derived.Shelf.Bytes.GrowRow0Kept
import Derived.Shelf.Bytes.GrowRowKept
import Derived.Shelf.Bytes.GrowNilKept
import Derived.Shelf.Bytes.GrowKept
import Derived.Shelf.Bytes.WriteStringKept
import Derived.Shelf.Bytes.ResetKept
import Derived.Shelf.Bytes.WriteKept
import Derived.Shelf.Bytes.BufferK
import Derived.Shelf.Bytes.GrowRow0Own
import Derived.Shelf.Bytes.GrowRowOwn
import Derived.Shelf.Bytes.GrowNilOwn
import Derived.Shelf.Bytes.GrowOwn
import Derived.Shelf.Bytes.WriteAny
import Derived.Test.YtgnpjenpehfjbaaDoorProg
set_option linter.unusedSimpArgs false
set_option linter.unusedVariables false
namespace Go.Proofs.YtgnpjenpehfjbaaDoor
open Go.RowKit

def vintF : Nat → Nat → List UInt8
  | 0, x => [UInt8.ofNat x]
  | f + 1, x => if 127 < x then UInt8.ofNat (x % 128 + 128) :: vintF f (x / 128) else [UInt8.ofNat x]
/-- a number's bytes -/
def vint (x : Nat) : List UInt8 := vintF 10 x

theorem vintF_more (f x : Nat) (h : 127 < x) : vintF (f + 1) x = UInt8.ofNat (x % 128 + 128) :: vintF f (x / 128) := by
  show (if _ then _ else _) = _
  rw [if_pos h]
theorem vintF_last (f x : Nat) (h : ¬ 127 < x) : vintF f x = [UInt8.ofNat x] := by
  cases f with
  | zero => rfl
  | succ f => show (if _ then _ else _) = _; rw [if_neg h]
theorem vintF_len (f x : Nat) : 1 ≤ (vintF f x).length ∧ (vintF f x).length ≤ f + 1 := by
  induction f generalizing x with
  | zero => simp [vintF]
  | succ f ih =>
    by_cases h : 127 < x
    · rw [vintF_more f x h]; have := ih (x / 128); simp; omega
    · rw [vintF_last _ x h]; simp
theorem vint_len (x : Nat) (hx : x < 18446744073709551616) : 1 ≤ (vint x).length ∧ (vint x).length ≤ 10 := by
  have : ∀ f x, x < 128 ^ f → (vintF f x).length ≤ max 1 f := by
    intro f
    induction f with
    | zero => intro x h; simp [vintF]
    | succ f ih =>
      intro x h
      by_cases h1 : 127 < x
      · rw [vintF_more f x h1]
        have h2 : x / 128 < 128 ^ f := by
          rw [Nat.div_lt_iff_lt_mul (by decide)]
          rw [Nat.pow_succ] at h; exact h
        have := ih _ h2
        have hf : 1 ≤ f := by
          rcases Nat.eq_zero_or_pos f with h0 | h0
          · subst h0; omega
          · exact h0
        simp; omega
      · rw [vintF_last _ x h1]; simp
  have h2 := this 10 x (Nat.lt_of_lt_of_le hx (by decide))
  have h1 := vintF_len 10 x
  unfold vint
  omega

theorem or128_all : ∀ c : Fin 256, bits .or .u8 ((c.1 : Nat) : Int) 128 = ((c.1 % 128 + 128 : Nat) : Int) := by decide +kernel
theorem or128 (x : Nat) : bits .or .u8 ((x : Int) % 256) 128 = ((UInt8.ofNat (x % 128 + 128)).toNat : Int) := by
  have h := or128_all ⟨x % 256, Nat.mod_lt _ (by decide)⟩
  have e : ((x : Int) % 256) = ((x % 256 : Nat) : Int) := by omega
  rw [e, h]
  have : (UInt8.ofNat (x % 128 + 128)).toNat = x % 128 + 128 := by simp; omega
  rw [this]
  show (((x % 256) % 128 + 128 : Nat) : Int) = _
  rw [Nat.mod_mod_of_dvd _ (by decide : 128 ∣ 256)]

theorem lit1 (c : UInt8) (i : Nat) (hi : i < 1) : (#[Value.int .u8 (c.toNat : Int)])[i]? = some (.int .u8 (([c].getD i 0).toNat : Int)) := by
  obtain rfl : i = 0 := by omega
  rfl

set_option maxRecDepth 100000 in
set_option maxHeartbeats 1000000 in
theorem code_number (v : Value) (l : List UInt8) (x : Nat) (w : World) (B : Nat) (hx : x < 18446744073709551616) (ho : Own w B v l) (hB : B ≤ w.heap.size) (hl : l.length ≤ 1000000000000) :
    Calls Tryd.prog 52 #[v, .int .u64 (x : Int)] w fun e w' => ∃ v', e = .returned v' ∧ Own w' B v' (l ++ vint x) ∧ Below B w w' := by
  have HO := Lib.hid ho
  clear ho
  go_enter Tryd.func52, Tryd.ntmps52
  go_wp2_with fail
  go_loopw [0, 1] (fun b y wr => ∃ (f z : Nat) (pre : List UInt8), y = .int .u64 (z : Int) ∧ z < 18446744073709551616 ∧ Hid (z < 128 ^ f) ∧ Hid (pre ++ vintF f z = vint x) ∧ Hid (pre.length + f = 10) ∧ Hid (Own wr B b (l ++ pre)) ∧ Hid (Below B w wr)) (fun _ y _ => (intOf y).toNat)
  case atStart => exact ⟨10, x, [], rfl, hx, Nat.lt_of_lt_of_le hx (by decide), rfl, rfl, by show Own _ _ _ _; rw [List.append_nil]; exact HO.out, Below.refl _ _⟩
  case round =>
    obtain ⟨f, z, pre, rfl, hz, HZ, HP, HL, HOw, HB⟩ := hrel
    have hor := or128 z
    have hsz := HB.out.size
    have hpl : pre.length ≤ 10 := by have := HL.out; omega
    by_cases h127 : 127 < z
    · obtain ⟨f, rfl⟩ : ∃ f', f = f' + 1 := by
        cases f with
        | zero => have := HZ.out; simp at this; omega
        | succ f => exact ⟨f, rfl⟩
      have hst := vintF_more f z h127
      have hP := HP.out
      rw [hst] at hP
      have HP2 := Lib.hid hP
      have HZ2 : Hid (z / 128 < 128 ^ f) := by
        have := HZ.out
        rw [Nat.pow_succ] at this
        exact (Nat.div_lt_iff_lt_mul (by decide)).2 this
      clear hst hP HP HZ
      generalize UInt8.ofNat (z % 128 + 128) = c at *
      have hO1 : Own (wr.alloc (.cells #[.int .u8 (c.toNat : Int)] 5)) B u0 (l ++ pre) := HOw.out.alloc _
      go_wp2_with (at_builtin; (refine wpList_append_bts rfl _ _ rfl B _ (l ++ pre) rfl hO1 _ [c] (wr.heap.size + 1) rfl ((Bts.lit _ wr.heap.size _ 5 (0, 0) [c] 1 1 (heap_alloc_new wr _) rfl (by omega) (by decide) (lit1 c)).mono (by simp)) (by simp; omega) (by simp; omega) ?_))
      intro v2 w2 hown2 hg2 _
      have hB2 : Below B w w2 := (HB.out.alloc (by omega) _).grown hg2 (by simp; omega) (fun j hj => (hO1.lt j hj).1)
      have HO2 := Lib.hid hown2
      have HB2 := Lib.hid hB2
      clear hown2 hB2 hO1 hg2
      go_wp2_with fail
      go_roundw
      case rel => exact ⟨f, z / 128, pre ++ [c], by go_num, by omega, HZ2, by rw [List.append_assoc]; exact HP2.out, by have := HL.out; show (pre ++ [c]).length + f = 10; rw [List.length_append, List.length_singleton]; omega, HO2, HB2⟩
      case measure => simp [intOf]; omega
    · obtain ⟨c, rfl⟩ : ∃ c : UInt8, z = c.toNat := ⟨UInt8.ofNat z, by simp; omega⟩
      have hst := vintF_last f c.toNat h127
      have hP := HP.out
      rw [hst, UInt8.ofNat_toNat] at hP
      have HP2 := Lib.hid hP
      clear hst hP HP HZ
      have hcv : ((c.toNat : Int) % 256) = (c.toNat : Int) := by omega
      have hO1 : Own (wr.alloc (.cells #[.int .u8 (c.toNat : Int)] 5)) B u0 (l ++ pre) := HOw.out.alloc _
      clear hor
      go_wp2_with (at_builtin; (refine wpList_append_bts rfl _ _ rfl B _ (l ++ pre) rfl hO1 _ [c] (wr.heap.size + 1) rfl ((Bts.lit _ wr.heap.size _ 5 (0, 0) [c] 1 1 (heap_alloc_new wr _) rfl (by omega) (by decide) (lit1 c)).mono (by simp)) (by simp; omega) (by simp; omega) ?_))
      intro v2 w2 hown2 hg2 _
      have hB2 : Below B w w2 := (HB.out.alloc (by omega) _).grown hg2 (by simp; omega) (fun j hj => (hO1.lt j hj).1)
      rw [HP2.out] at hown2
      clear hO1 hg2
      go_wp2_with fail
      go_ret
      exact ⟨_, rfl, hown2, hB2⟩

end Go.Proofs.YtgnpjenpehfjbaaDoor

namespace Go.Proofs.YtgnpjenpehfjbaaDoor
open Go.RowKit

set_option maxRecDepth 100000 in
theorem code_own (v : Value) (l : List UInt8) (m : Nat) (w : World) (hb : Bts w w.heap.size v l) (hl : l.length ≤ 1000000000000) (hm : m ≤ 1000000000000) :
    Calls Tryd.prog 75 #[v, .int .i64 (m : Int)] w fun e w' => ∃ v', e = .returned v' ∧ Own w' w.heap.size v' l ∧ Below w.heap.size w w' := by
  obtain ⟨ao, cap, hv, _⟩ := id hb
  have HB := Lib.hid hb
  subst hv
  clear hb
  generalize hn : l.length = n at *
  have HN := Lib.hid hn
  clear hn
  obtain ⟨i0, hi, hz0, hz1, hz2⟩ := info_parts info_u8
  go_enter Tryd.func75, Tryd.ntmps75
  go_wp2_with (at_make; refine wpList_make_own _ rfl _ _ 27 rfl w.heap.size 5 i0 (.int .u8 0) 1 Tryd.underlying27 hi hz0 hz1 _ _ _ (n + m) rfl rfl (by omega) (by rw [hz2]; omega) (by unfold maxLen; omega) (by omega) ?_)
  intro w1 hown hgrow
  have hB1 : Below w.heap.size w w1 := (Below.refl w.heap.size w).grown hgrow (Nat.le_refl _) (fun k hk => by cases hk)
  have hown1 : Own w1 w.heap.size _ [] := hown
  have hb1 := HB.out.below hB1 hB1.size
  have hs1 := hB1.size
  go_wp2_with (at_builtin; (refine wpList_append_bts rfl _ _ rfl w.heap.size _ [] rfl hown1 _ l w1.heap.size rfl hb1 (by rw [HN.out]; simp; omega) hs1 ?_))
  intro v2 w2 hown2 hg2 _
  have hB2 : Below w.heap.size w w2 := hB1.grown hg2 hs1 (fun j hj => (hown1.lt j hj).1)
  clear hown hgrow hown1 hb1 hg2
  go_wp2
  go_ret
  exact ⟨_, rfl, hown2, hB2⟩

/-- any number as one from 0 on -/
def zig (y : Int) : Nat := if 0 ≤ y then (2 * y).toNat else (-2 * y - 1).toNat

theorem ofInt_nat64 (z : Nat) : BitVec.ofInt IntKind.u64.bits (z : Int) = (BitVec.ofNat 64 z : BitVec 64) := by
  apply BitVec.eq_of_toNat_eq
  show (BitVec.ofInt 64 (z : Int)).toNat = (BitVec.ofNat 64 z : BitVec 64).toNat
  rw [BitVec.toNat_ofInt, BitVec.toNat_ofNat]; omega
theorem wrap_bv64 (x : BitVec 64) : IntKind.u64.wrap (x.toNat : Int) = (x.toNat : Int) := by
  have := x.isLt
  rw [IntKind.wrap_u64]; omega
theorem bits_and_u64 (x y : Nat) (hx : x < 18446744073709551616) (hy : y < 18446744073709551616) : bits .and .u64 (x : Int) (y : Int) = ((x &&& y : Nat) : Int) := by
  unfold bits
  rw [ofInt_nat64, ofInt_nat64]
  refine (wrap_bv64 ((BitVec.ofNat 64 x : BitVec 64) &&& (BitVec.ofNat 64 y : BitVec 64))).trans ?_
  rw [BitVec.toNat_and, BitVec.toNat_ofNat, BitVec.toNat_ofNat, Nat.mod_eq_of_lt (by omega), Nat.mod_eq_of_lt (by omega)]
theorem bits_or_u64 (x y : Nat) (hx : x < 18446744073709551616) (hy : y < 18446744073709551616) : bits .or .u64 (x : Int) (y : Int) = ((x ||| y : Nat) : Int) := by
  unfold bits
  rw [ofInt_nat64, ofInt_nat64]
  refine (wrap_bv64 ((BitVec.ofNat 64 x : BitVec 64) ||| (BitVec.ofNat 64 y : BitVec 64))).trans ?_
  rw [BitVec.toNat_or, BitVec.toNat_ofNat, BitVec.toNat_ofNat, Nat.mod_eq_of_lt (by omega), Nat.mod_eq_of_lt (by omega)]
theorem xor_u64_zero (m : Nat) (h1 : m < 18446744073709551616) : bits .xor .u64 (m : Int) 0 = m := by
  unfold bits
  rw [show (0 : Int) = ((0 : Nat) : Int) from rfl, ofInt_nat64, ofInt_nat64]
  refine (wrap_bv64 ((BitVec.ofNat 64 m : BitVec 64) ^^^ (BitVec.ofNat 64 0 : BitVec 64))).trans ?_
  simp
  omega
theorem xor_u64_ones (m : Nat) (h1 : m < 18446744073709551616) : bits .xor .u64 (m : Int) 18446744073709551615 = ((18446744073709551615 - m : Nat) : Int) := by
  unfold bits
  rw [show (18446744073709551615 : Int) = ((18446744073709551615 : Nat) : Int) from rfl, ofInt_nat64, ofInt_nat64]
  refine (wrap_bv64 ((BitVec.ofNat 64 m : BitVec 64) ^^^ (BitVec.ofNat 64 18446744073709551615 : BitVec 64))).trans ?_
  rw [show (BitVec.ofNat 64 18446744073709551615 : BitVec 64) = BitVec.allOnes 64 by decide, BitVec.xor_allOnes, BitVec.toNat_not, BitVec.toNat_ofNat, Nat.mod_eq_of_lt (by omega)]

set_option maxRecDepth 100000 in
theorem code_folded (y : Int) (w : World) (h0 : -9223372036854775808 ≤ y) (h1 : y < 9223372036854775808) :
    Calls Tryd.prog 53 #[.int .i64 y] w fun e w' => e = .returned (.int .u64 (zig y : Nat)) ∧ w' = w := by
  by_cases hy : 0 ≤ y
  · have e1 : IntKind.u64.wrap y = y := by rw [IntKind.wrap_u64]; omega
    have e2 : (y / 9223372036854775808 : Int) = 0 := by omega
    have e3 : bits .xor .u64 (y * 2) 0 = (zig y : Nat) := by
      have h := xor_u64_zero (2 * y).toNat (by omega)
      unfold zig
      rw [if_pos hy, ← h]
      congr 1; omega
    go_enter Tryd.func53, Tryd.ntmps53
    go_wp2
    go_ret
    exact ⟨rfl, rfl⟩
  · have e1 : IntKind.u64.wrap y = y + 18446744073709551616 := by rw [IntKind.wrap_u64]; omega
    have e2 : (y / 9223372036854775808 : Int) = -1 := by omega
    have e4 : IntKind.u64.wrap ((y + 18446744073709551616) * 2) = 2 * y + 18446744073709551616 := by rw [IntKind.wrap_u64]; omega
    have e5 : IntKind.u64.wrap (-1) = 18446744073709551615 := by rw [IntKind.wrap_u64]; omega
    have e3 : bits .xor .u64 (2 * y + 18446744073709551616) 18446744073709551615 = (zig y : Nat) := by
      have h := xor_u64_ones (2 * y + 18446744073709551616).toNat (by omega)
      have h2 : zig y = 18446744073709551615 - (2 * y + 18446744073709551616).toNat := by unfold zig; rw [if_neg hy]; omega
      rw [h2, ← h]
      congr 1; omega
    go_enter Tryd.func53, Tryd.ntmps53
    go_wp2
    go_ret
    exact ⟨rfl, rfl⟩

theorem zig_lt (y : Int) (h0 : -9223372036854775808 ≤ y) (h1 : y < 9223372036854775808) : zig y < 18446744073709551616 := by
  unfold zig
  by_cases hy : 0 ≤ y
  · rw [if_pos hy]; omega
  · rw [if_neg hy]; omega

end Go.Proofs.YtgnpjenpehfjbaaDoor

namespace Go.Proofs.YtgnpjenpehfjbaaDoor
open Go.RowKit

theorem heap_store1 {W : World} {b : Nat} {t : TypeId} {x y u : Value} (h : W.heap[b]? = some (.cells #[x, y] t (0, 0))) : (W.setCell ⟨b, 1, none⟩ u).heap[b]? = some (.cells #[x, u] t (0, 0)) := by
  rw [heap_setCell_same W b 1 #[x, y] t u h]; rfl

/-- the reader's block: its bytes, its place -/
abbrev curO (vb : Value) (at_ : Nat) : Obj := .cells #[vb, .int .i64 (at_ : Int)] 147 (0, 0)
/-- what reading leaves: all but the reader's block as it was -/
structure Rd (rb : Nat) (vb : Value) (w w' : World) (at_ : Nat) : Prop where
  os : w'.os = w.os
  tape : w'.tape = w.tape
  output : w'.output = w.output
  size : w.heap.size ≤ w'.heap.size
  block : ∀ k, k < w.heap.size → k ≠ rb → w'.heap[k]? = w.heap[k]?
  cur : w'.heap[rb]? = some (curO vb at_)
  lt : rb < w.heap.size

theorem Rd.refl {rb : Nat} {vb : Value} {w : World} {at_ : Nat} (h : w.heap[rb]? = some (curO vb at_)) : Rd rb vb w w at_ := ⟨rfl, rfl, rfl, Nat.le_refl _, fun _ _ _ => rfl, h, (Array.getElem?_eq_some_iff.1 h).1⟩
theorem Rd.trans {rb : Nat} {vb : Value} {w w1 w2 : World} {a b : Nat} (h : Rd rb vb w w1 a) (g : Rd rb vb w1 w2 b) : Rd rb vb w w2 b :=
  ⟨g.os.trans h.os, g.tape.trans h.tape, g.output.trans h.output, Nat.le_trans h.size g.size, fun k hk hne => (g.block k (Nat.lt_of_lt_of_le hk h.size) hne).trans (h.block k hk hne), g.cur, h.lt⟩
theorem Rd.drew {rb : Nat} {vb : Value} {w w' : World} {a : Nat} (h : Rd rb vb w w' a) (n : Nat) : Rd rb vb w (w'.drewN n) a := ⟨h.os, h.tape, h.output, h.size, h.block, h.cur, h.lt⟩
theorem Rd.alloc {rb : Nat} {vb : Value} {w w' : World} {a : Nat} (h : Rd rb vb w w' a) (o : Obj) : Rd rb vb w (w'.alloc o) a := by
  have hrb := (Array.getElem?_eq_some_iff.1 h.cur).1
  refine ⟨h.os, h.tape, h.output, by simp; exact Nat.le_succ_of_le h.size, fun k hk hne => ?_, ?_, h.lt⟩
  · rw [Below.heap_alloc _ _ _ (Nat.lt_of_lt_of_le hk h.size)]; exact h.block k hk hne
  · rw [Below.heap_alloc _ _ _ hrb]; exact h.cur
theorem Rd.below {rb : Nat} {vb : Value} {w w' : World} {a : Nat} (h : Rd rb vb w w' a) : Below rb w w' := ⟨h.os, h.tape, h.output, h.size, fun k hk => h.block k (by have := h.lt; omega) (by omega)⟩
theorem Rd.bts {rb : Nat} {vb : Value} {w w' : World} {a : Nat} (h : Rd rb vb w w' a) {v : Value} {l : List UInt8} (hb : Bts w rb v l) : Bts w' rb v l := hb.below h.below (Nat.le_refl _)
theorem Rd.step {rb : Nat} {vb : Value} {w w' : World} {a : Nat} (h : Rd rb vb w w' a) (b : Nat) : Rd rb vb w (w'.setCell ⟨rb, 1, none⟩ (.int .i64 (b : Int))) b := by
  refine ⟨h.os, h.tape, h.output, by simpa [World.setCell] using h.size, fun k hk hne => ?_, ?_, h.lt⟩
  · rw [Below.heap_setCell _ _ _ _ hne]; exact h.block k hk hne
  · exact heap_store1 h.cur

/-- the panic that gives reading up -/
abbrev gaveUp (e : Int) : Ending := .panicked [{ v := .iface 43 (.int .i64 e), recovered := false }]

theorem fail_calls (p : Value) (e : Int) (w : World) : Calls Tryd.prog 91 #[p, .int .i64 e] w fun x w' => x = gaveUp e ∧ w' = w := by
  go_enter Tryd.func91, Tryd.ntmps91
  go_wp2
  exact ⟨rfl, rfl, rfl⟩

set_option maxRecDepth 100000 in
theorem byte_end (rb : Nat) (ao : Option Addr) (n cap at_ : Nat) (w : World) (hc : w.heap[rb]? = some (curO (.slice ao n cap) at_)) (hat : n ≤ at_) :
    Calls Tryd.prog 93 #[.pointer (some ⟨rb, 0, none⟩)] w fun x w' => x = gaveUp 21 ∧ Rd rb (.slice ao n cap) w w' at_ := by
  have h0 : w.cell? ⟨rb, 0, none⟩ = some (.slice ao n cap) := cell_of_row w rb 0 _ _ _ hc
  have h1 : w.cell? ⟨rb, 1, none⟩ = some (.int .i64 (at_ : Int)) := cell_of_row w rb 1 _ _ _ hc
  have HC := Lib.hid hc
  clear hc
  go_enter Tryd.func93, Tryd.ntmps93
  go_wp2
  go_quiet (fail)
  go_wp2_with (go_at_call 91; refine (fail_calls _ _ _).mono ?_; rintro e w' ⟨rfl, rfl⟩)
  exact ⟨rfl, rfl, (Rd.refl HC.out).drew _⟩

set_option maxRecDepth 100000 in
theorem byte_ok (rb : Nat) (vb : Value) (l : List UInt8) (at_ : Nat) (w : World) (hc : w.heap[rb]? = some (curO vb at_)) (hb : Bts w rb vb l) (hat : at_ < l.length) :
    Calls Tryd.prog 93 #[.pointer (some ⟨rb, 0, none⟩)] w fun x w' => x = .returned (.int .u8 ((l.getD at_ 0).toNat : Int)) ∧ Rd rb vb w w' (at_ + 1) := by
  have hlen := hb.len
  obtain ⟨ao, cap, rfl, hcap, _, _, hx⟩ := id hb
  obtain ⟨b, off, rfl, hbr, hcell⟩ := hx (fun h => by rw [h] at hat; simp at hat)
  have h0 : w.cell? ⟨rb, 0, none⟩ = some (.slice (some ⟨b, off, none⟩) l.length cap) := cell_of_row w rb 0 _ _ _ hc
  have h1 : w.cell? ⟨rb, 1, none⟩ = some (.int .i64 (at_ : Int)) := cell_of_row w rb 1 _ _ _ hc
  have hf : w.frozen? ⟨rb, 1, none⟩ = false := frozen_of_row w rb 1 _ _ hc
  have hca := hcell at_ hat
  have HC := Lib.hid hc
  clear hc hcell hx hb
  generalize l.getD at_ 0 = c at *
  generalize l.length = n at *
  have hne : b ≠ rb := by omega
  go_enter Tryd.func93, Tryd.ntmps93
  go_wp2
  go_quiet (fail)
  go_wp2
  go_quiet (fail)
  go_wp2
  go_ret
  exact ⟨rfl, (((Rd.refl HC.out).drew _).step (at_ + 1)).drew _⟩

end Go.Proofs.YtgnpjenpehfjbaaDoor

namespace Go.Proofs.YtgnpjenpehfjbaaDoor
open Go.RowKit

/-- the number, the place behind it, the code; f: how many bytes may still come, less one is the weight's distance from 9 -/
def numR (l : List UInt8) : Nat → Nat → Nat → Nat × Nat × Nat
  | 0, a, acc => (acc, a, 0)
  | f + 1, a, acc =>
    if l.length ≤ a then (0, a, 21)
    else if (f < 9 ∧ (l.getD a 0).toNat = 0) ∨ (f = 0 ∧ 1 < (l.getD a 0).toNat) then (0, a, 20)
    else if (l.getD a 0).toNat < 128 then (acc + (l.getD a 0).toNat * 128 ^ (9 - f), a + 1, 0)
    else numR l f (a + 1) (acc + ((l.getD a 0).toNat - 128) * 128 ^ (9 - f))

theorem and127_all : ∀ c : Fin 256, bits .and .u8 ((c.1 : Nat) : Int) 127 = ((c.1 % 128 : Nat) : Int) := by decide +kernel
theorem and127 (c : UInt8) : bits .and .u8 (c.toNat : Int) 127 = ((c.toNat % 128 : Nat) : Int) := and127_all ⟨c.toNat, c.toNat_lt⟩

theorem pow128 (k : Nat) : 128 ^ k = 2 ^ (7 * k) := by rw [Nat.pow_mul]

theorem wrap7 (m i : Nat) (hm : m * 128 ^ i < 18446744073709551616) : IntKind.u64.wrap ((m : Int) * 2 ^ (7 * i)) = ((m * 128 ^ i : Nat) : Int) := by
  rw [IntKind.wrap_u64]
  have e2 : (m : Int) * 2 ^ (7 * i) = ((m * 128 ^ i : Nat) : Int) := by rw [pow128]; simp
  rw [e2]
  omega

theorem or_add (acc q k : Nat) (h : acc < 128 ^ k) : acc ||| q * 128 ^ k = acc + q * 128 ^ k := by
  have := Nat.two_pow_add_eq_or_of_lt (i := 7 * k) (b := acc) (by rw [← pow128]; exact h) q
  rw [Nat.or_comm, pow128, Nat.mul_comm q, ← this, Nat.add_comm]

theorem mul_bound (m i : Nat) (hm : m < 128) (hi : i < 9) : m * 128 ^ i < 18446744073709551616 := by
  have h1 : m * 128 ^ i ≤ 127 * 128 ^ i := Nat.mul_le_mul_right _ (by omega)
  have h2 : 127 * 128 ^ i ≤ 127 * 128 ^ 8 := Nat.mul_le_mul_left _ (Nat.pow_le_pow_right (by decide) (by omega))
  exact Nat.lt_of_le_of_lt (Nat.le_trans h1 h2) (by decide)

abbrev NumPost (rb : Nat) (vb : Value) (w : World) (R : Nat × Nat × Nat) (x : Ending) (w' : World) : Prop :=
  (R.2.2 = 0 ∧ x = .returned (.int .u64 (R.1 : Int)) ∧ Rd rb vb w w' R.2.1) ∨ (R.2.2 ≠ 0 ∧ x = gaveUp (R.2.2 : Int) ∧ ∃ a, Rd rb vb w w' a)

set_option maxRecDepth 100000 in
set_option maxHeartbeats 1000000 in
theorem reader_number (rb : Nat) (vb : Value) (l : List UInt8) (at_ : Nat) (w : World) (hc : w.heap[rb]? = some (curO vb at_)) (hb : Bts w rb vb l) :
    Calls Tryd.prog 90 #[.pointer (some ⟨rb, 0, none⟩)] w fun x w' => NumPost rb vb w (numR l 10 at_ 0) x w' := by
  have hR0 : Hid (numR l 10 at_ 0 = numR l 10 at_ 0) := rfl
  generalize hRR : numR l 10 at_ 0 = R at *
  have HR := Lib.hid hRR
  clear hRR hR0
  have HC := Lib.hid (Rd.refl hc)
  have HBB := Lib.hid hb
  clear hc hb
  go_enter Tryd.func90, Tryd.ntmps90
  go_wp2_with fail
  go_loopw [3, 4, 5, 6] (fun x k1 c k wr => ∃ (i f a acc : Nat), i + f = 9 ∧ k = .int .i64 (i : Int) ∧ x = .int .u64 (acc : Int) ∧ Hid (acc < 128 ^ i) ∧ Hid (R = numR l (f + 1) a acc) ∧ Hid (Rd rb vb w wr a)) (fun _ _ _ k _ => 10 - (intOf k).toNat)
  case atStart => exact ⟨0, 9, at_, 0, by omega, rfl, rfl, by show 0 < _; decide, HR.out.symm, HC⟩
  case round =>
    obtain ⟨i, f, a, acc, hf, rfl, rfl, HA, HQ, HD⟩ := hrel
    have hQ := HQ.out
    have hst : numR l (f + 1) a acc = if l.length ≤ a then (0, a, 21)
      else if (f < 9 ∧ (l.getD a 0).toNat = 0) ∨ (f = 0 ∧ 1 < (l.getD a 0).toNat) then (0, a, 20)
      else if (l.getD a 0).toNat < 128 then (acc + (l.getD a 0).toNat * 128 ^ (9 - f), a + 1, 0)
      else numR l f (a + 1) (acc + ((l.getD a 0).toNat - 128) * 128 ^ (9 - f)) := rfl
    rw [hst, show 9 - f = i by omega] at hQ
    clear hst
    have hbr := HD.out.bts HBB.out
    by_cases hat : l.length ≤ a
    · rw [if_pos hat] at hQ
      have HQ' := Lib.hid hQ
      obtain ⟨ao, cap, hv, _⟩ := id hbr
      have c1 : Calls Tryd.prog 93 #[.pointer (some ⟨rb, 0, none⟩)] wr fun x w' => x = gaveUp 21 ∧ Rd rb vb wr w' a := by
        have := HD.out.cur
        subst hv
        exact byte_end rb ao l.length cap a wr this hat
      clear hQ hbr hv hat
      go_wp2_with fail
      refine c1.mono ?_
      rintro e w1 ⟨rfl, hD1⟩
      refine ⟨rfl, .inr ?_⟩
      rw [HQ'.out]
      exact ⟨by simp, rfl, a, HD.out.trans hD1⟩
    · rw [if_neg hat] at hQ
      have c1 := byte_ok rb vb l a wr HD.out.cur hbr (by omega)
      clear hbr
      have haccb : acc < 18446744073709551616 := Nat.lt_of_lt_of_le HA.out (Nat.le_trans (Nat.pow_le_pow_right (by decide) (show i ≤ 9 by omega)) (by decide))
      generalize l.getD a 0 = c at *
      by_cases hb1 : f < 9 ∧ c.toNat = 0
      · rw [if_pos (.inl hb1)] at hQ
        obtain ⟨hf9, hc0⟩ := hb1
        have hc0' : ((c.toNat : Int) == 0) = true := by rw [hc0]; rfl
        have hi0 : 0 < i := by omega
        clear hc0 hf9
        have HQ' := Lib.hid hQ
        clear hQ HQ
        go_wp2_with fail
        refine c1.mono ?_
        rintro e w1 ⟨rfl, hD1⟩
        have HD1 := Lib.hid (HD.out.trans hD1)
        clear c1 hD1
        go_wp2_with (go_at_call 91; refine (fail_calls _ _ _).mono ?_; rintro e w' ⟨rfl, rfl⟩)
        refine ⟨rfl, .inr ?_⟩
        rw [HQ'.out]
        exact ⟨by simp, rfl, _, HD1.out⟩
      by_cases hb2 : f = 0 ∧ 1 < c.toNat
      · rw [if_pos (.inr hb2)] at hQ
        obtain ⟨hf0, hc1⟩ := hb2
        have hc0' : ((c.toNat : Int) == 0) = false := by rw [beq_eq_false_iff_ne]; omega
        obtain rfl : i = 9 := by omega
        clear hb1
        have HQ' := Lib.hid hQ
        clear hQ HQ
        go_wp2_with fail
        refine c1.mono ?_
        rintro e w1 ⟨rfl, hD1⟩
        have HD1 := Lib.hid (HD.out.trans hD1)
        clear c1 hD1
        go_wp2_with (go_at_call 91; refine (fail_calls _ _ _).mono ?_; rintro e w' ⟨rfl, rfl⟩)
        refine ⟨rfl, .inr ?_⟩
        rw [HQ'.out]
        exact ⟨by simp, rfl, _, HD1.out⟩
      rw [if_neg (by intro h; exact h.elim hb1 hb2)] at hQ
      by_cases h128 : c.toNat < 128
      · rw [if_pos h128] at hQ
        by_cases hi0 : i < 1
        · have hi9' : ((i : Int) == 9) = false := by rw [beq_eq_false_iff_ne]; omega
          have hmul : c.toNat * 128 ^ i < 18446744073709551616 := mul_bound _ i (by omega) (by omega)
          have hsh := wrap7 c.toNat i hmul
          have hmod : c.toNat % 128 = c.toNat := Nat.mod_eq_of_lt h128
          have hand := and127 c
          rw [hmod] at hand
          have hq := or_add acc c.toNat i HA.out
          have hor := bits_or_u64 acc (c.toNat * 128 ^ i) haccb hmul
          rw [hq] at hor
          have HQ' := Lib.hid hQ
          clear hQ hmod hq HQ hmul
          generalize hG : c.toNat * 128 ^ i = q at *
          clear hG
          go_wp2_with fail
          refine c1.mono ?_
          rintro e w1 ⟨rfl, hD1⟩
          have HD1 := Lib.hid (HD.out.trans hD1)
          clear c1 hD1
          go_wp2_with fail
          go_ret
          refine .inl ?_
          rw [HQ'.out]
          exact ⟨rfl, rfl, HD1.out⟩
        · by_cases hi9 : 8 < i
          · have hi9' : ((i : Int) == 9) = true := by rw [beq_iff_eq]; omega
            have hcle : c.toNat ≤ 1 := by omega
            have hc0' : ((c.toNat : Int) == 0) = false := by rw [beq_eq_false_iff_ne]; omega
            have hmul : c.toNat * 128 ^ i < 18446744073709551616 := by
              have h1 : c.toNat * 128 ^ i ≤ 1 * 128 ^ i := Nat.mul_le_mul_right _ hcle
              have h2 : 128 ^ i ≤ 128 ^ 9 := Nat.pow_le_pow_right (by decide) (by omega)
              exact Nat.lt_of_le_of_lt (Nat.le_trans h1 (by omega)) (show 128 ^ 9 < 18446744073709551616 by decide)
            have hsh := wrap7 c.toNat i hmul
            have hmod : c.toNat % 128 = c.toNat := Nat.mod_eq_of_lt h128
            have hand := and127 c
            rw [hmod] at hand
            have hq := or_add acc c.toNat i HA.out
            have hor := bits_or_u64 acc (c.toNat * 128 ^ i) haccb hmul
            rw [hq] at hor
            have HQ' := Lib.hid hQ
            clear hQ hmod hq HQ hmul
            generalize hG : c.toNat * 128 ^ i = q at *
            clear hG
            go_wp2_with fail
            refine c1.mono ?_
            rintro e w1 ⟨rfl, hD1⟩
            have HD1 := Lib.hid (HD.out.trans hD1)
            clear c1 hD1
            go_wp2_with fail
            go_ret
            refine .inl ?_
            rw [HQ'.out]
            exact ⟨rfl, rfl, HD1.out⟩
          · have hip : 0 < i := by omega
            have hi8 : i < 9 := by omega
            have hi9' : ((i : Int) == 9) = false := by rw [beq_eq_false_iff_ne]; omega
            have hc0' : ((c.toNat : Int) == 0) = false := by rw [beq_eq_false_iff_ne]; omega
            have hmul : c.toNat * 128 ^ i < 18446744073709551616 := mul_bound c.toNat i h128 hi8
            have hsh := wrap7 c.toNat i hmul
            have hmod : c.toNat % 128 = c.toNat := Nat.mod_eq_of_lt h128
            have hand := and127 c
            rw [hmod] at hand
            have hq := or_add acc c.toNat i HA.out
            have hor := bits_or_u64 acc (c.toNat * 128 ^ i) haccb hmul
            rw [hq] at hor
            have HQ' := Lib.hid hQ
            clear hQ hmod hq HQ hmul
            generalize hG : c.toNat * 128 ^ i = q at *
            clear hG
            go_wp2_with fail
            refine c1.mono ?_
            rintro e w1 ⟨rfl, hD1⟩
            have HD1 := Lib.hid (HD.out.trans hD1)
            clear c1 hD1
            go_wp2_with fail
            go_ret
            refine .inl ?_
            rw [HQ'.out]
            exact ⟨rfl, rfl, HD1.out⟩
      · rw [if_neg h128] at hQ
        have hcl0 := c.toNat_lt
        by_cases hi0 : i < 1
        · have hi9' : ((i : Int) == 9) = false := by rw [beq_eq_false_iff_ne]; omega
          have hmul : (c.toNat - 128) * 128 ^ i < 18446744073709551616 := mul_bound _ i (by omega) (by omega)
          have hsh := wrap7 (c.toNat - 128) i hmul
          have hcl := c.toNat_lt
          have hmod : c.toNat % 128 = c.toNat - 128 := by omega
          have hand := and127 c
          rw [hmod] at hand
          have hq := or_add acc (c.toNat - 128) i HA.out
          have hor := bits_or_u64 acc ((c.toNat - 128) * 128 ^ i) haccb hmul
          rw [hq] at hor
          have HQ' := Lib.hid hQ
          have HA' : Hid (acc + (c.toNat - 128) * 128 ^ i < 128 ^ (i + 1)) := by
            show _ < _
            have h1 := HA.out
            have h2 : (c.toNat - 128) * 128 ^ i ≤ 127 * 128 ^ i := Nat.mul_le_mul_right _ (by omega)
            rw [Nat.pow_succ]; omega
          have hc7 : c.toNat - 128 < 128 := by omega
          clear hQ hmod hq HQ hmul hcl
          generalize hG : (c.toNat - 128) * 128 ^ i = q at *
          clear hG
          generalize hG : c.toNat - 128 = c7 at *
          clear hG
          go_wp2_with fail
          refine c1.mono ?_
          rintro e w1 ⟨rfl, hD1⟩
          have HD1 := Lib.hid (HD.out.trans hD1)
          clear c1 hD1
          go_wp2_with fail
          go_roundw
          case rel => exact ⟨i + 1, f - 1, a + 1, acc + q, by omega, by go_num, by go_num, HA', by show R = _; rw [show f - 1 + 1 = f by omega]; exact HQ'.out, HD1⟩
          case measure => simp [intOf]; omega
        · have hip : 0 < i := by omega
          have hi8 : i < 9 := by omega
          have hi9' : ((i : Int) == 9) = false := by rw [beq_eq_false_iff_ne]; omega
          have hc0' : ((c.toNat : Int) == 0) = false := by rw [beq_eq_false_iff_ne]; omega
          have hmul : (c.toNat - 128) * 128 ^ i < 18446744073709551616 := mul_bound (c.toNat - 128) i (by omega) hi8
          have hsh := wrap7 (c.toNat - 128) i hmul
          have hcl := c.toNat_lt
          have hmod : c.toNat % 128 = c.toNat - 128 := by omega
          have hand := and127 c
          rw [hmod] at hand
          have hq := or_add acc (c.toNat - 128) i HA.out
          have hor := bits_or_u64 acc ((c.toNat - 128) * 128 ^ i) haccb hmul
          rw [hq] at hor
          have HQ' := Lib.hid hQ
          have HA' : Hid (acc + (c.toNat - 128) * 128 ^ i < 128 ^ (i + 1)) := by
            show _ < _
            have h1 := HA.out
            have h2 : (c.toNat - 128) * 128 ^ i ≤ 127 * 128 ^ i := Nat.mul_le_mul_right _ (by omega)
            rw [Nat.pow_succ]; omega
          have hc7 : c.toNat - 128 < 128 := by omega
          clear hQ hmod hq HQ hmul hcl
          generalize hG : (c.toNat - 128) * 128 ^ i = q at *
          clear hG
          generalize hG : c.toNat - 128 = c7 at *
          clear hG
          go_wp2_with fail
          refine c1.mono ?_
          rintro e w1 ⟨rfl, hD1⟩
          have HD1 := Lib.hid (HD.out.trans hD1)
          clear c1 hD1
          go_wp2_with fail
          go_roundw
          case rel => exact ⟨i + 1, f - 1, a + 1, acc + q, by omega, by go_num, by go_num, HA', by show R = _; rw [show f - 1 + 1 = f by omega]; exact HQ'.out, HD1⟩
          case measure => simp [intOf]; omega

end Go.Proofs.YtgnpjenpehfjbaaDoor

namespace Go.Proofs.YtgnpjenpehfjbaaDoor
open Go.RowKit

theorem numR_le (l : List UInt8) (f : Nat) : ∀ a acc, a ≤ l.length → (numR l f a acc).2.1 ≤ l.length := by
  induction f with
  | zero => intro a acc h; exact h
  | succ f ih =>
    intro a acc h
    show (if _ then _ else _ : Nat × Nat × Nat).2.1 ≤ _
    by_cases h1 : l.length ≤ a
    · rw [if_pos h1]; exact h
    · rw [if_neg h1]
      by_cases h2 : (f < 9 ∧ (l.getD a 0).toNat = 0) ∨ (f = 0 ∧ 1 < (l.getD a 0).toNat)
      · rw [if_pos h2]; exact h
      · rw [if_neg h2]
        by_cases h3 : (l.getD a 0).toNat < 128
        · rw [if_pos h3]; show a + 1 ≤ _; omega
        · rw [if_neg h3]; exact ih _ _ (by omega)

theorem numR_lt (l : List UInt8) (f : Nat) : ∀ a acc, f ≤ 9 → acc < 128 ^ (9 - f) → (numR l (f + 1) a acc).1 < 18446744073709551616 := by
  induction f with
  | zero =>
    intro a acc _ h
    show (if _ then _ else _ : Nat × Nat × Nat).1 < _
    by_cases h1 : l.length ≤ a
    · rw [if_pos h1]; simp
    · rw [if_neg h1]
      by_cases h2 : (0 < 9 ∧ (l.getD a 0).toNat = 0) ∨ (0 = 0 ∧ 1 < (l.getD a 0).toNat)
      · rw [if_pos h2]; simp
      · rw [if_neg h2]
        have h3 : (l.getD a 0).toNat ≤ 1 := by omega
        rw [if_pos (by omega)]
        show acc + _ * 128 ^ (9 - 0) < _
        have h4 : (l.getD a 0).toNat * 128 ^ (9 - 0) ≤ 1 * 128 ^ (9 - 0) := Nat.mul_le_mul_right _ h3
        have h5 : (128 : Nat) ^ (9 - 0) = 9223372036854775808 := by decide
        rw [h5] at h4 h
        rw [h5]
        omega
  | succ f ih =>
    intro a acc hf h
    show (if _ then _ else _ : Nat × Nat × Nat).1 < _
    have hp : (128 : Nat) ^ (9 - f) = 128 * 128 ^ (9 - (f + 1)) := by rw [show 9 - f = (9 - (f + 1)) + 1 by omega, Nat.pow_succ, Nat.mul_comm]
    have hp8 : (128 : Nat) ^ (9 - f) ≤ 128 ^ 9 := Nat.pow_le_pow_right (by decide) (by omega)
    have h9 : (128 : Nat) ^ 9 = 9223372036854775808 := by decide
    by_cases h1 : l.length ≤ a
    · rw [if_pos h1]; simp
    · rw [if_neg h1]
      by_cases h2 : (f + 1 < 9 ∧ (l.getD a 0).toNat = 0) ∨ (f + 1 = 0 ∧ 1 < (l.getD a 0).toNat)
      · rw [if_pos h2]; simp
      · rw [if_neg h2]
        have hc := (l.getD a 0).toNat_lt
        generalize (l.getD a 0).toNat = c at *
        by_cases h3 : c < 128
        · rw [if_pos h3]
          show acc + c * 128 ^ (9 - (f + 1)) < _
          have h4 : c * 128 ^ (9 - (f + 1)) ≤ 127 * 128 ^ (9 - (f + 1)) := Nat.mul_le_mul_right _ (by omega)
          omega
        · rw [if_neg h3]
          refine ih _ _ (by omega) ?_
          have h4 : (c - 128) * 128 ^ (9 - (f + 1)) ≤ 127 * 128 ^ (9 - (f + 1)) := Nat.mul_le_mul_right _ (by omega)
          omega

/-- the text, the place behind it, the code -/
def textR (l : List UInt8) (a : Nat) : List UInt8 × Nat × Nat :=
  if (numR l 10 a 0).2.2 ≠ 0 then ([], a, (numR l 10 a 0).2.2)
  else if l.length - (numR l 10 a 0).2.1 < (numR l 10 a 0).1 then ([], a, 21)
  else ((l.take ((numR l 10 a 0).2.1 + (numR l 10 a 0).1)).drop (numR l 10 a 0).2.1, (numR l 10 a 0).2.1 + (numR l 10 a 0).1, 0)

abbrev TextPost (rb : Nat) (vb : Value) (w : World) (T : List UInt8 × Nat × Nat) (x : Ending) (w' : World) : Prop :=
  (T.2.2 = 0 ∧ x = .returned (.string ⟨T.1.toArray⟩) ∧ Rd rb vb w w' T.2.1) ∨ (T.2.2 ≠ 0 ∧ x = gaveUp (T.2.2 : Int) ∧ ∃ a, Rd rb vb w w' a)

set_option maxRecDepth 100000 in
set_option maxHeartbeats 1000000 in
theorem reader_text (rb : Nat) (vb : Value) (l : List UInt8) (at_ : Nat) (w : World) (hc : w.heap[rb]? = some (curO vb at_)) (hb : Bts w rb vb l) (hat : at_ ≤ l.length) (hl : l.length ≤ 1000000000000) :
    Calls Tryd.prog 92 #[.pointer (some ⟨rb, 0, none⟩)] w fun x w' => TextPost rb vb w (textR l at_) x w' := by
  have c1 := reader_number rb vb l at_ w hc hb
  have hle := numR_le l 10 at_ 0 hat
  have hlt := numR_lt l 9 at_ 0 (by decide) (by decide)
  have hT : textR l at_ = if (numR l 10 at_ 0).2.2 ≠ 0 then ([], at_, (numR l 10 at_ 0).2.2)
    else if l.length - (numR l 10 at_ 0).2.1 < (numR l 10 at_ 0).1 then ([], at_, 21)
    else ((l.take ((numR l 10 at_ 0).2.1 + (numR l 10 at_ 0).1)).drop (numR l 10 at_ 0).2.1, (numR l 10 at_ 0).2.1 + (numR l 10 at_ 0).1, 0) := rfl
  generalize textR l at_ = T at *
  generalize numR l 10 at_ 0 = R at *
  obtain ⟨x, a, e⟩ := R
  simp only at hT hle hlt
  have HBB := Lib.hid hb
  have HTT := Lib.hid hT
  obtain ⟨ao, cap, hv, hcap, _⟩ := id hb
  clear hb hT hc
  go_enter Tryd.func92, Tryd.ntmps92
  go_wp2_with fail
  refine c1.mono ?_
  rintro en w1 hp
  rcases hp with ⟨he, hx, hD⟩ | ⟨he, hx, b, hD⟩
  · simp only at he hx hD
    subst he hx
    have h0 : w1.cell? ⟨rb, 0, none⟩ = some vb := cell_of_row w1 rb 0 _ _ _ hD.cur
    have h1 : w1.cell? ⟨rb, 1, none⟩ = some (.int .i64 (a : Int)) := cell_of_row w1 rb 1 _ _ _ hD.cur
    have hf : w1.frozen? ⟨rb, 1, none⟩ = false := frozen_of_row w1 rb 1 _ _ hD.cur
    have hb1 := hD.bts HBB.out
    by_cases hbig : l.length - a < x
    · have hT2 : Hid (T = ([], at_, 21)) := by show T = _; rw [HTT.out, if_neg (by simp), if_pos hbig]
      have HD := Lib.hid hD
      clear HTT hD c1 HBB hb1 hf
      generalize l.length = n at *
      subst hv
      go_wp2
      go_quiet (fail)
      go_wp2_with (go_at_call 91; refine (fail_calls _ _ _).mono ?_; rintro e w' ⟨rfl, rfl⟩)
      refine ⟨rfl, .inr ?_⟩
      rw [hT2.out]
      exact ⟨by simp, rfl, a, HD.out.drew _⟩
    · obtain ⟨v1, hb2, hr1⟩ := hb1.cutB a (a + x) (by omega) (by omega)
      have hT2 : Hid (T = ((l.take (a + x)).drop a, a + x, 0)) := by show T = _; rw [HTT.out, if_neg (by simp), if_neg hbig]
      have HD := Lib.hid hD
      have hs : ∀ n m, (convert 27 9 v1).run Tryd.prog (((w1.drewN m).setCell ⟨rb, 1, none⟩ (.int .i64 ((a + x : Nat) : Int))).drewN n) = .ok (.string ⟨((l.take (a + x)).drop a).toArray⟩) (((w1.drewN m).setCell ⟨rb, 1, none⟩ (.int .i64 ((a + x : Nat) : Int))).drewN n) := fun n m =>
        (hb2.below ((((Rd.refl hD.cur).drew m).step (a + x)).drew n).below (Nat.le_refl _)).strB
      have hcast : (((a + x : Nat)) : Int) = (a : Int) + (x : Int) := by omega
      rw [hcast] at hs hr1
      clear HTT hD c1 HBB hb1 hcast
      generalize (l.take (a + x)).drop a = tx at *
      generalize l.length = n at *
      subst hv
      go_wp2
      go_quiet (fail)
      go_wp2
      go_quiet (fail)
      go_wp2
      go_ret
      refine .inl ?_
      rw [hT2.out]
      exact ⟨rfl, rfl, ((HD.out.drew _).step (a + x)).drew _⟩
  · simp only at he hx hD
    subst hx
    refine ⟨rfl, .inr ?_⟩
    rw [HTT.out, if_pos he]
    exact ⟨he, rfl, b, hD⟩

end Go.Proofs.YtgnpjenpehfjbaaDoor

namespace Go.Proofs.YtgnpjenpehfjbaaDoor
open Go.RowKit

/-- number, text, truth of a field -/
structure Fld where
  kind : Int
  num : Int
  text : List UInt8
  is_ : Bool
deriving DecidableEq
def Fld.val (f : Fld) : Value := .agg #[.int .i64 f.kind, .int .i64 f.num, .string ⟨f.text.toArray⟩, .bool f.is_]
def unzig (x : Nat) : Int := if x % 2 = 0 then (x / 2 : Nat) else -((x / 2 : Nat) : Int) - 1

/-- the field, the place behind it, the code -/
def fieldR (l : List UInt8) (k : Int) (a : Nat) : Fld × Nat × Nat :=
  if k = 1 then
    (if (numR l 10 a 0).2.2 ≠ 0 then (⟨1, 0, [], false⟩, a, (numR l 10 a 0).2.2) else if 9223372036854775807 < (numR l 10 a 0).1 then (⟨1, 0, [], false⟩, a, 20) else (⟨1, (numR l 10 a 0).1, [], false⟩, (numR l 10 a 0).2.1, 0))
  else if k = 2 then
    (if (numR l 10 a 0).2.2 ≠ 0 then (⟨2, 0, [], false⟩, a, (numR l 10 a 0).2.2) else (⟨2, unzig (numR l 10 a 0).1, [], false⟩, (numR l 10 a 0).2.1, 0))
  else if k = 3 then
    (if (textR l a).2.2 ≠ 0 then (⟨3, 0, [], false⟩, a, (textR l a).2.2) else (⟨3, 0, (textR l a).1, false⟩, (textR l a).2.1, 0))
  else if k = 4 then
    (if l.length ≤ a then (⟨4, 0, [], false⟩, a, 21) else if 1 < (l.getD a 0).toNat then (⟨4, 0, [], false⟩, a, 20) else (⟨4, 0, [], (l.getD a 0).toNat == 1⟩, a + 1, 0))
  else (⟨k, 0, [], false⟩, a, 46)

abbrev FieldPost (rb : Nat) (vb : Value) (w : World) (T : Fld × Nat × Nat) (x : Ending) (w' : World) : Prop :=
  (T.2.2 = 0 ∧ x = .returned T.1.val ∧ Rd rb vb w w' T.2.1) ∨ (T.2.2 ≠ 0 ∧ x = gaveUp (T.2.2 : Int) ∧ ∃ a, Rd rb vb w w' a)

theorem Rd.fresh {rb : Nat} {vb : Value} {w w' : World} {a : Nat} (h : Rd rb vb w w' a) {g : Nat} (hg : w.heap.size ≤ g) (j : Nat) (v : Value) : Rd rb vb w (w'.setCell ⟨g, j, none⟩ v) a := by
  have := h.lt
  refine ⟨h.os, h.tape, h.output, by simpa [World.setCell] using h.size, fun k hk hne => ?_, ?_, h.lt⟩
  · rw [Below.heap_setCell _ _ _ _ (show k ≠ g by omega)]; exact h.block k hk hne
  · rw [Below.heap_setCell _ _ _ _ (show rb ≠ g by omega)]; exact h.cur

abbrev fldO (k : Int) : Obj := .cells #[.int .i64 k, .int .i64 0, .string ⟨#[]⟩, .bool false] 92 (0, 0)
/-- what the walk needs of the two new blocks -/
structure Two (w0 w : World) (k : Int) : Prop where
  a0 : w.cell? ⟨w0.heap.size, 0, none⟩ = some (.int .i64 0)
  a1 : w.cell? ⟨w0.heap.size, 1, none⟩ = some (.int .i64 0)
  a2 : w.cell? ⟨w0.heap.size, 2, none⟩ = some (.string ⟨#[]⟩)
  a3 : w.cell? ⟨w0.heap.size, 3, none⟩ = some (.bool false)
  b0 : w.cell? ⟨w0.heap.size + 1, 0, none⟩ = some (.int .i64 k)
  b1 : w.cell? ⟨w0.heap.size + 1, 1, none⟩ = some (.int .i64 0)
  b2 : w.cell? ⟨w0.heap.size + 1, 2, none⟩ = some (.string ⟨#[]⟩)
  b3 : w.cell? ⟨w0.heap.size + 1, 3, none⟩ = some (.bool false)
  fa : ∀ j, w.frozen? ⟨w0.heap.size, j, none⟩ = false
  fb : ∀ j, w.frozen? ⟨w0.heap.size + 1, j, none⟩ = false
theorem two_start (w : World) (k : Int) : ((w.alloc (fldO 0)).alloc (fldO k)).heap[w.heap.size]? = some (fldO 0) ∧ ((w.alloc (fldO 0)).alloc (fldO k)).heap[w.heap.size + 1]? = some (fldO k) := by
  have hs : (w.alloc (fldO 0)).heap.size = w.heap.size + 1 := by simp
  refine ⟨?_, ?_⟩
  · rw [Below.heap_alloc _ _ _ (by rw [hs]; omega), heap_alloc_new]
  · rw [← hs, heap_alloc_new]
theorem two_of {rb : Nat} {vb : Value} {w w3 : World} {a : Nat} {k : Int} (hrb : rb < w.heap.size) (h : Rd rb vb ((w.alloc (fldO 0)).alloc (fldO k)) w3 a) : Two w w3 k := by
  obtain ⟨h1, h2⟩ := two_start w k
  have hs : ((w.alloc (fldO 0)).alloc (fldO k)).heap.size = w.heap.size + 2 := by simp
  have e1 : w3.heap[w.heap.size]? = some (fldO 0) := (h.block _ (by rw [hs]; omega) (by omega)).trans h1
  have e2 : w3.heap[w.heap.size + 1]? = some (fldO k) := (h.block _ (by rw [hs]; omega) (by omega)).trans h2
  exact ⟨cell_of_row _ _ 0 _ _ _ e1, cell_of_row _ _ 1 _ _ _ e1, cell_of_row _ _ 2 _ _ _ e1, cell_of_row _ _ 3 _ _ _ e1, cell_of_row _ _ 0 _ _ _ e2, cell_of_row _ _ 1 _ _ _ e2, cell_of_row _ _ 2 _ _ _ e2, cell_of_row _ _ 3 _ _ _ e2,
    fun j => frozen_of_row _ _ j _ _ e1, fun j => frozen_of_row _ _ j _ _ e2⟩

set_option maxRecDepth 100000 in
set_option maxHeartbeats 1000000 in
theorem field_num (rb : Nat) (vb : Value) (l : List UInt8) (a : Nat) (w : World) (hc : w.heap[rb]? = some (curO vb a)) (hb : Bts w rb vb l) :
    Calls Tryd.prog 88 #[.pointer (some ⟨rb, 0, none⟩), .int .i64 1] w fun x w' => FieldPost rb vb w (fieldR l 1 a) x w' := by
  have hT : fieldR l 1 a = if (numR l 10 a 0).2.2 ≠ 0 then (⟨1, 0, [], false⟩, a, (numR l 10 a 0).2.2) else if 9223372036854775807 < (numR l 10 a 0).1 then (⟨1, 0, [], false⟩, a, 20) else (⟨1, (numR l 10 a 0).1, [], false⟩, (numR l 10 a 0).2.1, 0) := by
    unfold fieldR; rw [if_pos rfl]
  generalize fieldR l 1 a = T at *
  have HT := Lib.hid hT
  clear hT
  have HC := Lib.hid hc
  have HBB := Lib.hid hb
  clear hc hb
  go_enter Tryd.func88, Tryd.ntmps88
  go_wp2_with fail
  have hD0 : Rd rb vb w ((w.alloc (fldO 0)).alloc (fldO 1)) a := ((Rd.refl HC.out).alloc _).alloc _
  have hD00 : Rd rb vb ((w.alloc (fldO 0)).alloc (fldO 1)) ((w.alloc (fldO 0)).alloc (fldO 1)) a := Rd.refl hD0.cur
  have c1 := reader_number rb vb l a _ hD0.cur (hD0.bts HBB.out)
  have hlt := numR_lt l 9 a 0 (by decide) (by decide)
  generalize numR l 10 a 0 = R at *
  obtain ⟨x, a', e⟩ := R
  simp only at hlt
  refine c1.mono ?_
  rintro en w1 hp
  rcases hp with ⟨he, hx, hD⟩ | ⟨he, hx, b, hD⟩
  · simp only at he hx hD
    subst he hx
    have HD := Lib.hid (hD0.trans hD)
    obtain ⟨ha0, ha1, ha2, ha3, hb0, hb1, hb2, hb3, hfa, hfb⟩ := two_of (Array.getElem?_eq_some_iff.1 HC.out).1 hD
    clear hD hD0 hD00 c1
    by_cases hbig : 9223372036854775807 < x
    · have hT2 : Hid (T = (⟨1, 0, [], false⟩, a, 20)) := by show T = _; rw [HT.out, if_neg (by simp), if_pos hbig]
      clear HT
      go_wp2_with (go_at_call 91; refine (fail_calls _ _ _).mono ?_; rintro e w' ⟨rfl, rfl⟩)
      refine ⟨rfl, .inr ?_⟩
      rw [hT2.out]
      exact ⟨by simp, rfl, a', HD.out⟩
    · have hT2 : Hid (T = (⟨1, x, [], false⟩, a', 0)) := by show T = _; rw [HT.out, if_neg (by simp), if_neg hbig]
      clear HT
      go_wp2
      refine bodyPost_ret (v := Fld.val ⟨1, x, [], false⟩) (by simp [results, Tryd.results88, go_sem, Fld.val, *]) rfl (.inl ?_)
      rw [hT2.out]
      refine ⟨rfl, rfl, ?_⟩
      have hl1 : w.heap.size ≤ w.heap.size := Nat.le_refl _
      have hl2 : w.heap.size ≤ w.heap.size + 1 := Nat.le_succ _
      exact ((((HD.out.fresh hl2 1 _).fresh hl1 0 _).fresh hl1 1 _).fresh hl1 2 _).fresh hl1 3 _
  · simp only at he hx hD
    subst hx
    refine ⟨rfl, .inr ?_⟩
    rw [HT.out, if_pos he]
    exact ⟨he, rfl, b, hD0.trans hD⟩

theorem xor_i64_zero (m : Nat) (h1 : m < 9223372036854775808) : bits .xor .i64 (m : Int) 0 = m := by
  unfold bits
  rw [show (0 : Int) = ((0 : Nat) : Int) from rfl]
  have e : ∀ z : Nat, z < 9223372036854775808 → BitVec.ofInt IntKind.i64.bits (z : Int) = (BitVec.ofNat 64 z : BitVec 64) := by
    intro z hz
    apply BitVec.eq_of_toNat_eq
    show (BitVec.ofInt 64 (z : Int)).toNat = (BitVec.ofNat 64 z : BitVec 64).toNat
    rw [BitVec.toNat_ofInt, BitVec.toNat_ofNat]; omega
  rw [e m h1, e 0 (by decide)]
  show IntKind.i64.wrap (((BitVec.ofNat 64 m : BitVec 64) ^^^ (BitVec.ofNat 64 0 : BitVec 64)).toNat : Int) = _
  simp only [IntKind.wrap_i64]
  simp
  omega
theorem xor_i64_ones (m : Nat) (h1 : m < 9223372036854775808) : bits .xor .i64 (m : Int) (-1) = -(m : Int) - 1 := by
  unfold bits
  have e : BitVec.ofInt IntKind.i64.bits (m : Int) = (BitVec.ofNat 64 m : BitVec 64) := by
    apply BitVec.eq_of_toNat_eq
    show (BitVec.ofInt 64 (m : Int)).toNat = (BitVec.ofNat 64 m : BitVec 64).toNat
    rw [BitVec.toNat_ofInt, BitVec.toNat_ofNat]; omega
  have e2 : BitVec.ofInt IntKind.i64.bits (-1) = BitVec.allOnes 64 := by show BitVec.ofInt 64 (-1) = BitVec.allOnes 64; decide
  rw [e, e2]
  show IntKind.i64.wrap (((BitVec.ofNat 64 m : BitVec 64) ^^^ BitVec.allOnes 64).toNat : Int) = _
  rw [BitVec.xor_allOnes, BitVec.toNat_not, BitVec.toNat_ofNat, Nat.mod_eq_of_lt (by omega)]
  simp only [IntKind.wrap_i64]
  omega

set_option maxRecDepth 100000 in
set_option maxHeartbeats 1000000 in
theorem field_signed (rb : Nat) (vb : Value) (l : List UInt8) (a : Nat) (w : World) (hc : w.heap[rb]? = some (curO vb a)) (hb : Bts w rb vb l) :
    Calls Tryd.prog 88 #[.pointer (some ⟨rb, 0, none⟩), .int .i64 2] w fun x w' => FieldPost rb vb w (fieldR l 2 a) x w' := by
  have hT : fieldR l 2 a = if (numR l 10 a 0).2.2 ≠ 0 then (⟨2, 0, [], false⟩, a, (numR l 10 a 0).2.2) else (⟨2, unzig (numR l 10 a 0).1, [], false⟩, (numR l 10 a 0).2.1, 0) := by
    unfold fieldR; rw [if_neg (by decide), if_pos rfl]
  generalize fieldR l 2 a = T at *
  have HT := Lib.hid hT
  clear hT
  have HC := Lib.hid hc
  have HBB := Lib.hid hb
  clear hc hb
  go_enter Tryd.func88, Tryd.ntmps88
  go_wp2_with fail
  have hD0 : Rd rb vb w ((w.alloc (fldO 0)).alloc (fldO 2)) a := ((Rd.refl HC.out).alloc _).alloc _
  have c1 := reader_number rb vb l a _ hD0.cur (hD0.bts HBB.out)
  have hlt := numR_lt l 9 a 0 (by decide) (by decide)
  generalize numR l 10 a 0 = R at *
  obtain ⟨x, a', e⟩ := R
  simp only at hlt
  refine c1.mono ?_
  rintro en w1 hp
  rcases hp with ⟨he, hx, hD⟩ | ⟨he, hx, b, hD⟩
  · simp only at he hx hD
    subst he hx
    have HD := Lib.hid (hD0.trans hD)
    obtain ⟨ha0, ha1, ha2, ha3, hb0, hb1, hb2, hb3, hfa, hfb⟩ := two_of (Array.getElem?_eq_some_iff.1 HC.out).1 hD
    clear hD hD0 c1
    have hT2 : Hid (T = (⟨2, unzig x, [], false⟩, a', 0)) := by show T = _; rw [HT.out, if_neg (by simp)]
    clear HT
    have hand0 := bits_and_u64 x 1 hlt (by decide)
    rw [Nat.and_one_is_mod] at hand0
    by_cases hev : x % 2 = 0
    · have hand : bits .and .u64 (x : Int) 1 = 0 := by rw [hev] at hand0; exact hand0
      have hxor : bits .xor .i64 ((x : Int) / 2) 0 = unzig x := by
        have := xor_i64_zero (x / 2) (by omega)
        unfold unzig
        rw [if_pos hev, ← this]
        congr 1
      have HX := Lib.hid hev
      clear hand0 hev
      generalize unzig x = z at *
      go_wp2
      refine bodyPost_ret (v := Fld.val ⟨2, z, [], false⟩) (by simp [results, Tryd.results88, go_sem, Fld.val, *]) rfl (.inl ?_)
      rw [hT2.out]
      refine ⟨rfl, rfl, ?_⟩
      have hl1 : w.heap.size ≤ w.heap.size := Nat.le_refl _
      have hl2 : w.heap.size ≤ w.heap.size + 1 := Nat.le_succ _
      exact ((((HD.out.fresh hl2 1 _).fresh hl1 0 _).fresh hl1 1 _).fresh hl1 2 _).fresh hl1 3 _
    · have hev' : x % 2 = 1 := by omega
      have hand : bits .and .u64 (x : Int) 1 = 1 := by rw [hev'] at hand0; exact hand0
      have hxor : bits .xor .i64 ((x : Int) / 2) (-1) = unzig x := by
        have := xor_i64_ones (x / 2) (by omega)
        unfold unzig
        rw [if_neg hev, ← this]
        congr 1
      clear hand0 hev hev'
      generalize unzig x = z at *
      go_wp2
      refine bodyPost_ret (v := Fld.val ⟨2, z, [], false⟩) (by simp [results, Tryd.results88, go_sem, Fld.val, *]) rfl (.inl ?_)
      rw [hT2.out]
      refine ⟨rfl, rfl, ?_⟩
      have hl1 : w.heap.size ≤ w.heap.size := Nat.le_refl _
      have hl2 : w.heap.size ≤ w.heap.size + 1 := Nat.le_succ _
      exact ((((HD.out.fresh hl2 1 _).fresh hl1 0 _).fresh hl1 1 _).fresh hl1 2 _).fresh hl1 3 _
  · simp only at he hx hD
    subst hx
    refine ⟨rfl, .inr ?_⟩
    rw [HT.out, if_pos he]
    exact ⟨he, rfl, b, hD0.trans hD⟩

set_option maxRecDepth 100000 in
set_option maxHeartbeats 1000000 in
theorem field_text (rb : Nat) (vb : Value) (l : List UInt8) (a : Nat) (w : World) (hc : w.heap[rb]? = some (curO vb a)) (hb : Bts w rb vb l) (hat : a ≤ l.length) (hl : l.length ≤ 1000000000000) :
    Calls Tryd.prog 88 #[.pointer (some ⟨rb, 0, none⟩), .int .i64 3] w fun x w' => FieldPost rb vb w (fieldR l 3 a) x w' := by
  have hT : fieldR l 3 a = if (textR l a).2.2 ≠ 0 then (⟨3, 0, [], false⟩, a, (textR l a).2.2) else (⟨3, 0, (textR l a).1, false⟩, (textR l a).2.1, 0) := by
    unfold fieldR; rw [if_neg (by decide), if_neg (by decide), if_pos rfl]
  generalize fieldR l 3 a = T at *
  have HT := Lib.hid hT
  clear hT
  have HC := Lib.hid hc
  have HBB := Lib.hid hb
  clear hc hb
  go_enter Tryd.func88, Tryd.ntmps88
  go_wp2_with fail
  have hD0 : Rd rb vb w ((w.alloc (fldO 0)).alloc (fldO 3)) a := ((Rd.refl HC.out).alloc _).alloc _
  have c1 := reader_text rb vb l a _ hD0.cur (hD0.bts HBB.out) hat hl
  generalize textR l a = R at *
  obtain ⟨x, a', e⟩ := R
  refine c1.mono ?_
  rintro en w1 hp
  rcases hp with ⟨he, hx, hD⟩ | ⟨he, hx, b, hD⟩
  · simp only at he hx hD
    subst he hx
    have HD := Lib.hid (hD0.trans hD)
    obtain ⟨ha0, ha1, ha2, ha3, hb0, hb1, hb2, hb3, hfa, hfb⟩ := two_of (Array.getElem?_eq_some_iff.1 HC.out).1 hD
    clear hD hD0 c1
    have hT2 : Hid (T = (⟨3, 0, x, false⟩, a', 0)) := by show T = _; rw [HT.out, if_neg (by simp)]
    clear HT
    · go_wp2
      refine bodyPost_ret (v := Fld.val ⟨3, 0, x, false⟩) (by simp [results, Tryd.results88, go_sem, Fld.val, *]) rfl (.inl ?_)
      rw [hT2.out]
      refine ⟨rfl, rfl, ?_⟩
      have hl1 : w.heap.size ≤ w.heap.size := Nat.le_refl _
      have hl2 : w.heap.size ≤ w.heap.size + 1 := Nat.le_succ _
      exact ((((HD.out.fresh hl2 2 _).fresh hl1 0 _).fresh hl1 1 _).fresh hl1 2 _).fresh hl1 3 _
  · simp only at he hx hD
    subst hx
    refine ⟨rfl, .inr ?_⟩
    rw [HT.out, if_pos he]
    exact ⟨he, rfl, b, hD0.trans hD⟩

set_option maxRecDepth 100000 in
set_option maxHeartbeats 1000000 in
theorem field_flag (rb : Nat) (vb : Value) (l : List UInt8) (a : Nat) (w : World) (hc : w.heap[rb]? = some (curO vb a)) (hb : Bts w rb vb l) :
    Calls Tryd.prog 88 #[.pointer (some ⟨rb, 0, none⟩), .int .i64 4] w fun x w' => FieldPost rb vb w (fieldR l 4 a) x w' := by
  have hT : fieldR l 4 a = if l.length ≤ a then (⟨4, 0, [], false⟩, a, 21) else if 1 < (l.getD a 0).toNat then (⟨4, 0, [], false⟩, a, 20) else (⟨4, 0, [], (l.getD a 0).toNat == 1⟩, a + 1, 0) := by
    unfold fieldR; rw [if_neg (by decide), if_neg (by decide), if_neg (by decide), if_pos rfl]
  generalize fieldR l 4 a = T at *
  have HT := Lib.hid hT
  clear hT
  have HC := Lib.hid hc
  have HBB := Lib.hid hb
  clear hc hb
  go_enter Tryd.func88, Tryd.ntmps88
  go_wp2_with fail
  have hD0 : Rd rb vb w ((w.alloc (fldO 0)).alloc (fldO 4)) a := ((Rd.refl HC.out).alloc _).alloc _
  have hbr := hD0.bts HBB.out
  by_cases hat : l.length ≤ a
  · obtain ⟨ao, cap, hv, _⟩ := id hbr
    have c1 : Calls Tryd.prog 93 #[.pointer (some ⟨rb, 0, none⟩)] ((w.alloc (fldO 0)).alloc (fldO 4)) fun x w' => x = gaveUp 21 ∧ Rd rb vb ((w.alloc (fldO 0)).alloc (fldO 4)) w' a := by
      have := hD0.cur
      subst hv
      exact byte_end rb ao l.length cap a _ this hat
    refine c1.mono ?_
    rintro e w1 ⟨rfl, hD1⟩
    refine ⟨rfl, .inr ?_⟩
    rw [HT.out, if_pos hat]
    exact ⟨by simp, rfl, a, hD0.trans hD1⟩
  · have c1 := byte_ok rb vb l a _ hD0.cur hbr (by omega)
    refine c1.mono ?_
    rintro e w1 ⟨rfl, hD⟩
    have HD := Lib.hid (hD0.trans hD)
    obtain ⟨ha0, ha1, ha2, ha3, hb0, hb1, hb2, hb3, hfa, hfb⟩ := two_of (Array.getElem?_eq_some_iff.1 HC.out).1 hD
    clear hD hD0 c1 hbr
    by_cases hbig : 1 < (l.getD a 0).toNat
    · have hT2 : Hid (T = (⟨4, 0, [], false⟩, a, 20)) := by show T = _; rw [HT.out, if_neg hat, if_pos hbig]
      clear HT
      generalize l.getD a 0 = c at *
      go_wp2_with (go_at_call 91; refine (fail_calls _ _ _).mono ?_; rintro e w' ⟨rfl, rfl⟩)
      refine ⟨rfl, .inr ?_⟩
      rw [hT2.out]
      exact ⟨by simp, rfl, a + 1, HD.out⟩
    · have hT2 : Hid (T = (⟨4, 0, [], (l.getD a 0).toNat == 1⟩, a + 1, 0)) := by show T = _; rw [HT.out, if_neg hat, if_neg hbig]
      clear HT
      generalize l.getD a 0 = c at *
      have hbe : ((c.toNat : Int) == 1) = (c.toNat == 1) := by rw [Bool.eq_iff_iff, beq_iff_eq, beq_iff_eq]; omega
      generalize (c.toNat == 1) = bb at *
      go_wp2
      refine bodyPost_ret (v := Fld.val ⟨4, 0, [], bb⟩) (by simp [results, Tryd.results88, go_sem, Fld.val, *]) rfl (.inl ?_)
      rw [hT2.out]
      refine ⟨rfl, rfl, ?_⟩
      have hl1 : w.heap.size ≤ w.heap.size := Nat.le_refl _
      have hl2 : w.heap.size ≤ w.heap.size + 1 := Nat.le_succ _
      exact ((((HD.out.fresh hl2 3 _).fresh hl1 0 _).fresh hl1 1 _).fresh hl1 2 _).fresh hl1 3 _

set_option maxRecDepth 100000 in
set_option maxHeartbeats 1000000 in
theorem field_other (rb : Nat) (vb : Value) (l : List UInt8) (k : Int) (a : Nat) (w : World) (hc : w.heap[rb]? = some (curO vb a)) (h1 : k ≠ 1) (h2 : k ≠ 2) (h3 : k ≠ 3) (h4 : k ≠ 4) :
    Calls Tryd.prog 88 #[.pointer (some ⟨rb, 0, none⟩), .int .i64 k] w fun x w' => FieldPost rb vb w (fieldR l k a) x w' := by
  have hT : fieldR l k a = (⟨k, 0, [], false⟩, a, 46) := by
    unfold fieldR; rw [if_neg h1, if_neg h2, if_neg h3, if_neg h4]
  rw [hT]
  have HC := Lib.hid hc
  have e1 : (k == 1) = false := by simpa using h1
  have e2 : (k == 2) = false := by simpa using h2
  have e3 : (k == 3) = false := by simpa using h3
  have e4 : (k == 4) = false := by simpa using h4
  clear hc hT h1 h2 h3 h4
  go_enter Tryd.func88, Tryd.ntmps88
  go_wp2_with (go_at_call 91; refine (fail_calls _ _ _).mono ?_; rintro e w' ⟨rfl, rfl⟩)
  exact ⟨rfl, .inr ⟨by simp, rfl, a, ((Rd.refl HC.out).alloc _).alloc _⟩⟩

theorem reader_field (rb : Nat) (vb : Value) (l : List UInt8) (k : Int) (a : Nat) (w : World) (hc : w.heap[rb]? = some (curO vb a)) (hb : Bts w rb vb l) (hat : a ≤ l.length) (hl : l.length ≤ 1000000000000) :
    Calls Tryd.prog 88 #[.pointer (some ⟨rb, 0, none⟩), .int .i64 k] w fun x w' => FieldPost rb vb w (fieldR l k a) x w' := by
  by_cases h1 : k = 1
  · subst h1; exact field_num rb vb l a w hc hb
  · by_cases h2 : k = 2
    · subst h2; exact field_signed rb vb l a w hc hb
    · by_cases h3 : k = 3
      · subst h3; exact field_text rb vb l a w hc hb hat hl
      · by_cases h4 : k = 4
        · subst h4; exact field_flag rb vb l a w hc hb
        · exact field_other rb vb l k a w hc h1 h2 h3 h4

end Go.Proofs.YtgnpjenpehfjbaaDoor

namespace Go.Proofs.YtgnpjenpehfjbaaDoor
open Go.RowKit

theorem assert_errno (v : Value) (xT : TypeId) (w : World) : (Instr.typeAssert (.iface 43 v) xT 43 true).run Tryd.prog w = .ok (.tuple #[v, .bool true]) w := by
  simp [Instr.typeAssert, run_underlying Tryd.underlying43, go_sem, Result.andThen]

set_option maxRecDepth 100000 in
theorem catch_no (p0 p1 p2 : Nat) (no : Int) (x0 x1 x2 : Value) (older : List PanicEntry) (w : World)
    (h0 : w.cell? ⟨p0, 0, none⟩ = some x0) (h1 : w.cell? ⟨p1, 0, none⟩ = some x1) (h2 : w.cell? ⟨p2, 0, none⟩ = some x2)
    (f0 : w.frozen? ⟨p0, 0, none⟩ = false) (f1 : w.frozen? ⟨p1, 0, none⟩ = false) (f2 : w.frozen? ⟨p2, 0, none⟩ = false) (h01 : p0 ≠ p1) (h02 : p0 ≠ p2) (h12 : p1 ≠ p2) :
    CallsD Tryd.prog 87 #[.pointer (some ⟨p0, 0, none⟩), .pointer (some ⟨p1, 0, none⟩), .pointer (some ⟨p2, 0, none⟩)] (.panicking ({ v := .iface 43 (.int .i64 no), recovered := false } :: older)) w fun e u' w' =>
      e = .returned (.tuple #[]) ∧ u' = .panicking ({ v := .iface 43 (.int .i64 no), recovered := true } :: older) ∧
        w' = ((w.setCell ⟨p0, 0, none⟩ (.slice none 0 0)).setCell ⟨p1, 0, none⟩ (.int .i64 0)).setCell ⟨p2, 0, none⟩ (.int .i64 no) := by
  refine callsD_of_wpS Tryd.func87 rfl fun c₀ cs hu => ?_
  apply wpS_seq
  apply wpS_region
  simp [wpOpsS, go_sem, recoverD, hu, Tryd.ntmps87, Exit.thenS]
  have hta := assert_errno
  apply wpS_seq
  apply wpS_region
  simp [wpOpsS, go_sem, Exit.thenS]
  refine wpS_cond (t := true) (by simp [Act.eval, Array.replicate]) ?_
  simp only [if_true]
  apply wpS_seq
  apply wpS_region
  simp [wpOpsS, go_sem, Exit.thenS, hta]
  apply wpS_seq
  apply wpS_seq
  apply wpS_region
  simp [wpOpsS, go_sem, Exit.thenS]
  refine wpS_cond (t := false) (by simp [Act.eval, Array.replicate]) ?_
  simp only [Bool.false_eq_true, if_false]
  refine wpS_of_wp (wp_skip ?_)
  simp only [Exit.thenS]
  apply wpS_region
  simp [wpOpsS, go_sem, h0, h1, h2, f0, f1, f2, h01, h02, h12, Ne.symm h01, Ne.symm h02, Ne.symm h12, bodyPostS, results, Tryd.results87]

theorem catch_idle (p0 p1 p2 : Nat) (w : World) :
    CallsD Tryd.prog 87 #[.pointer (some ⟨p0, 0, none⟩), .pointer (some ⟨p1, 0, none⟩), .pointer (some ⟨p2, 0, none⟩)] .returning w fun e u' w' => e = .returned (.tuple #[]) ∧ u' = .returning ∧ w' = w := by
  refine callsD_of_wpS Tryd.func87 rfl fun c₀ cs hu => ?_
  apply wpS_seq
  apply wpS_region
  simp [wpOpsS, go_sem, recoverD, hu, Tryd.ntmps87, Exit.thenS]
  apply wpS_seq
  apply wpS_region
  simp [wpOpsS, go_sem, Exit.thenS]
  refine wpS_cond (t := false) (by simp [Act.eval, Array.replicate]) ?_
  simp only [Bool.false_eq_true, if_false]
  refine wpS_of_wp (wp_skip ?_)
  cases c₀
  simp_all [bodyPostS, results, Tryd.results87]

end Go.Proofs.YtgnpjenpehfjbaaDoor

namespace Go.Proofs.YtgnpjenpehfjbaaDoor
open Go.RowKit

theorem getD_put (a : Act) (s t : Nat) (v : Value) (h : t ≠ s) : (a.put (some s) v).tmps.getD t undef = a.tmps.getD t undef := by
  simp only [Act.put, Array.getD_eq_getD_getElem?]
  rw [Array.getElem?_setIfInBounds_ne (Ne.symm h)]
theorem getD_put_same (a : Act) (s : Nat) (v : Value) (h : s < a.tmps.size) : (a.put (some s) v).tmps.getD s undef = v := by
  simp [Act.put, Array.getD, h]

theorem panic_region {ops : Array Oper} {Q : Exit → Act → World → Prop} {id : Nat} {a0 : Act} {w : World} {chain : List PanicEntry} {p k : Value} {g fl lcap : Nat} {lo : Option Addr} {S : World → Prop}
    (hline : lineUp ops = true)
    (e0 : (ops[0]?).map (fun o => (o.op, o.dst, o.guard)) = some (.load 63 (.tmp 4), some 21, none))
    (e1 : (ops[1]?).map (fun o => (o.op, o.dst, o.guard)) = some (.move (.tmp 7), some 22, none))
    (e2 : (ops[2]?).map (fun o => (o.op, o.dst, o.guard)) = some (.move (.tmp 9), some 23, none))
    (e3 : (ops[3]?).map (fun o => (o.op, o.dst, o.guard)) = some (.call { callee := .value (.func 88), args := #[.tmp 22, .tmp 23], argTypes := #[143, 3] }, some 24, none))
    (e3a : (ops[3]?).map (fun o => o.after.any (fun e => Region.binds .any e && e.on == 1) && o.after.any (fun e => Region.binds .any e && e.on == 2)) = some true)
    (elast : (List.range ops.size).all (fun i => decide (i < 4) || ((ops[i]?).map (fun o => o.after.any fun e => Region.binds .any e && decide (3 ≤ e.on))).getD false) = true)
    (hsz : 24 < a0.tmps.size) (h4 : a0.tmps.getD 4 undef = .pointer (some ⟨g, 0, none⟩)) (hcell : w.cell? ⟨g, 0, none⟩ = some (.slice lo fl lcap))
    (h7 : a0.tmps.getD 7 undef = p) (h9 : a0.tmps.getD 9 undef = k)
    (hc : Calls Tryd.prog 88 #[p, k] w.drew fun e w' => e = .panicked chain ∧ S w')
    (hQ : ∀ a' w', (∀ s, s < 21 → a'.tmps.getD s undef = a0.tmps.getD s undef) → a'.defers = a0.defers → S w' → Q (.panic chain) a' w') : (Code.region id ops true).wp Tryd.prog Q a0 w := by
  refine wpIn_wide (n := 5).1 (wpIn_region_inv (by kernel_rfl) hline (fun d a W => W = w.drew ∧ (∀ j, 3 ≤ j → d j = false) ∧ (∀ s, s < 21 → a.tmps.getD s undef = a0.tmps.getD s undef) ∧ a.tmps.size = a0.tmps.size ∧ a.defers = a0.defers ∧ (d 1 = true → a.tmps.getD 22 undef = p) ∧ (d 2 = true → a.tmps.getD 23 undef = k)) ?_ ?_ ?_)
  · exact ⟨rfl, fun _ _ => rfl, fun _ _ => rfl, rfl, rfl, fun h => (by cases h), fun h => (by cases h)⟩
  · intro d d' i o a W hdep hI ho hdi hd'i hdne hready
    obtain ⟨rfl, hd3, hfr, hsz', hdf, hd1, hd2⟩ := hI
    have hi : i = 0 ∨ i = 1 ∨ i = 2 ∨ i = 3 ∨ 4 ≤ i := by omega
    rcases hi with rfl | rfl | rfl | rfl | hi
    · rw [ho] at e0
      obtain ⟨dst, op, type, pos, after, guard⟩ := o
      simp at e0
      obtain ⟨rfl, rfl, rfl⟩ := e0
      unfold wpOpIn
      rw [ho]
      simp only
      rw [if_pos (by simp [Region.wanted])]
      refine ⟨fun f _ => trivial, ?_⟩
      have hrun : (execOp a.eval { dst := some 21, op := .load 63 (.tmp 4), type := type, pos := pos, after := after, guard := none }).run Tryd.prog w.drew = .ok (.value (.slice lo fl lcap)) w.drew := by
        simp [go_sem, Act.eval, hfr 4 (by omega), h4, hcell]
      rw [show Fence.wide.round = none from rfl, Oper.semAt_none]
      rw [hrun]
      exact ⟨rfl, fun j hj => by rw [hdne j (by omega)]; exact hd3 j hj, fun s hs => by rw [getD_put _ _ _ _ (by omega)]; exact hfr s hs, by simp [Act.put, hsz'], hdf, fun h => by rw [getD_put _ _ _ _ (by decide)]; exact hd1 (by rw [← hdne 1 (by decide)]; exact h), fun h => by rw [getD_put _ _ _ _ (by decide)]; exact hd2 (by rw [← hdne 2 (by decide)]; exact h)⟩
    · rw [ho] at e1
      obtain ⟨dst, op, type, pos, after, guard⟩ := o
      simp at e1
      obtain ⟨rfl, rfl, rfl⟩ := e1
      unfold wpOpIn
      rw [ho]
      simp only
      rw [if_pos (by simp [Region.wanted])]
      refine ⟨fun f _ => trivial, ?_⟩
      have hrun : (execOp a.eval { dst := some 22, op := .move (.tmp 7), type := type, pos := pos, after := after, guard := none }).run Tryd.prog w.drew = .ok (.value p) w.drew := by
        simp [go_sem, Act.eval, hfr 7 (by omega), h7]
      rw [show Fence.wide.round = none from rfl, Oper.semAt_none]
      rw [hrun]
      exact ⟨rfl, fun j hj => by rw [hdne j (by omega)]; exact hd3 j hj, fun s hs => by rw [getD_put _ _ _ _ (by omega)]; exact hfr s hs, by simp [Act.put, hsz'], hdf, fun _ => getD_put_same _ _ _ (by omega), fun h => by rw [getD_put _ _ _ _ (by decide)]; exact hd2 (by rw [← hdne 2 (by decide)]; exact h)⟩
    · rw [ho] at e2
      obtain ⟨dst, op, type, pos, after, guard⟩ := o
      simp at e2
      obtain ⟨rfl, rfl, rfl⟩ := e2
      unfold wpOpIn
      rw [ho]
      simp only
      rw [if_pos (by simp [Region.wanted])]
      refine ⟨fun f _ => trivial, ?_⟩
      have hrun : (execOp a.eval { dst := some 23, op := .move (.tmp 9), type := type, pos := pos, after := after, guard := none }).run Tryd.prog w.drew = .ok (.value k) w.drew := by
        simp [go_sem, Act.eval, hfr 9 (by omega), h9]
      rw [show Fence.wide.round = none from rfl, Oper.semAt_none]
      rw [hrun]
      exact ⟨rfl, fun j hj => by rw [hdne j (by omega)]; exact hd3 j hj, fun s hs => by rw [getD_put _ _ _ _ (by omega)]; exact hfr s hs, by simp [Act.put, hsz'], hdf, fun h => by rw [getD_put _ _ _ _ (by decide)]; exact hd1 (by rw [← hdne 1 (by decide)]; exact h), fun _ => getD_put_same _ _ _ (by omega)⟩
    · rw [ho] at e3 e3a
      obtain ⟨dst, op, type, pos, after, guard⟩ := o
      simp at e3 e3a
      obtain ⟨rfl, rfl, rfl⟩ := e3
      obtain ⟨⟨x1, hx1, hb1, ho1⟩, ⟨x2, hx2, hb2, ho2⟩⟩ := e3a
      have t1 := hd1 (by have := hready _ (Array.getElem_mem hx1) hb1; rwa [ho1] at this)
      have t2 := hd2 (by have := hready _ (Array.getElem_mem hx2) hb2; rwa [ho2] at this)
      unfold wpOpIn
      rw [ho]
      simp only
      rw [if_pos (by simp [Region.wanted])]
      refine ⟨fun f _ => trivial, ?_⟩
      have hrun : (execOp a.eval { dst := some 24, op := .call { callee := .value (.func 88), args := #[.tmp 22, .tmp 23], argTypes := #[143, 3] }, type := type, pos := pos, after := after, guard := none }).run Tryd.prog w.drew = .ok (.enter 88 #[p, k]) w.drew := by
        simp [go_sem, Act.eval, t1, t2]
      rw [show Fence.wide.round = none from rfl, Oper.semAt_none]
      rw [hrun]
      refine ⟨fun h => (by cases h), (callsIn_wide.2 hc).mono ?_⟩
      rintro e w' ⟨rfl, hS⟩
      exact hQ a w' hfr hdf hS
    · exfalso
      have hlt : i < ops.size := (Array.getElem?_eq_some_iff.1 ho).1
      have h1 := List.all_eq_true.1 elast i (List.mem_range.2 hlt)
      rw [ho] at h1
      simp [show ¬ i < 4 by omega] at h1
      obtain ⟨x, hx, hb, h3⟩ := h1
      have := hready _ (Array.getElem_mem hx) hb
      rw [hd3 _ h3] at this
      cases this
  · rintro d a W ⟨_, hd3, _⟩ hall
    have hlt : 3 < ops.size := by
      have : ops[3]?.isSome := by
        cases h : ops[3]? with
        | none => rw [h] at e3; simp at e3
        | some o => rfl
      simpa using this
    have := hall 3 hlt
    rw [hd3 3 (Nat.le_refl _)] at this
    cases this

end Go.Proofs.YtgnpjenpehfjbaaDoor

namespace Go.Proofs.YtgnpjenpehfjbaaDoor
open Go.RowKit

def readF (l : List UInt8) : List Int → List Fld → Nat → List Fld × Nat × Nat
  | [], fs, a => (fs, a, 0)
  | k :: r, fs, a => if (fieldR l k a).2.2 ≠ 0 then ([], 0, (fieldR l k a).2.2) else readF l r (fs ++ [(fieldR l k a).1]) (fieldR l k a).2.1

def Fld.cells (f : Fld) : List Value := [.int .i64 f.kind, .int .i64 f.num, .string ⟨f.text.toArray⟩, .bool f.is_]
abbrev OwnF (w : World) (B : Nat) (v : Value) (fs : List Fld) : Prop := w.ownsRow B 92 4 v fs.length (fs.flatMap Fld.cells)
theorem info_field : (Tryd.prog.info? 92).map (fun i => (i.zero, i.size, i.bytes)) = some (some (.agg #[.int .i64 0, .int .i64 0, .string ⟨#[]⟩, .bool false]), 4, 40) := by kernel_rfl

/-- a slice of ints that is read -/
def Ints (w : World) (B : Nat) (v : Value) (ks : List Int) : Prop :=
  ∃ ao cap, v = .slice ao ks.length cap ∧ ks.length ≤ cap ∧ cap ≤ maxLen ∧ (ks ≠ [] → ∃ b off, ao = some ⟨b, off, none⟩ ∧ b < B ∧ ∀ i, i < ks.length → w.cell? ⟨b, off + i, none⟩ = some (.int .i64 (ks.getD i 0)))
theorem Ints.below {w w' : World} {B B' : Nat} {v : Value} {ks : List Int} (h : Ints w B v ks) (hb : Below B w w') (hB : B ≤ B') : Ints w' B' v ks := by
  obtain ⟨ao, cap, h1, h2, h3, h4⟩ := h
  refine ⟨ao, cap, h1, h2, h3, fun hne => ?_⟩
  obtain ⟨b, off, h5, h6, h7⟩ := h4 hne
  exact ⟨b, off, h5, by omega, fun i hi => (hb.cell (p := ⟨b, off + i, none⟩) h6).trans (h7 i hi)⟩

/-- the world in the loop's round: the three named results' boxes, the reader's block, the fields so far -/
structure ReadI (w : World) (v lv : Value) (a : Nat) (fs : List Fld) (wr : World) : Prop where
  low : Below w.heap.size w wr
  b0 : wr.heap[w.heap.size]? = some (.cells #[lv] 63 (0, 0))
  b1 : wr.heap[w.heap.size + 1]? = some (.cells #[.int .i64 0] 3 (0, 0))
  b2 : wr.heap[w.heap.size + 1 + 1]? = some (.cells #[.int .i64 0] 43 (0, 0))
  b3 : wr.heap[w.heap.size + 1 + 1 + 1]? = some (curO v a)
  own : OwnF wr (w.heap.size + 4) lv fs
  size : w.heap.size + 4 ≤ wr.heap.size
  at_ : fs.length ≤ 1000000000

theorem Rd.owns {rb : Nat} {vb : Value} {w w' : World} {a : Nat} (h : Rd rb vb w w' a) {B n sz : Nat} {e : TypeId} {v : Value} {xs : List Value} (hB : rb < B) (ho : w.ownsRow B e sz v n xs) : w'.ownsRow B e sz v n xs := by
  obtain ⟨h1, h2⟩ := ho
  refine ⟨h1, ?_⟩
  rcases h2 with h2 | ⟨g, cap, cur, hv, hb, hg, r⟩
  · exact .inl h2
  · exact .inr ⟨g, cap, cur, hv, hb, by rw [h.block g (Array.getElem?_eq_some_iff.1 hg).1 (by omega)]; exact hg, r⟩

/-- what stands behind the field's reading and the growing row -/
theorem ReadI.behind {w wr w1 w2 : World} {v lv : Value} {a a' : Nat} {fs : List Fld} {o : Obj} (h : ReadI w v lv a fs wr) (hD : Rd (w.heap.size + 1 + 1 + 1) v wr.drew w1 a') (hg : (w1.alloc o).grownBy w2 lv.ownBlock) :
    Below w.heap.size w w2 ∧ w2.heap[w.heap.size]? = some (.cells #[lv] 63 (0, 0)) ∧ w2.heap[w.heap.size + 1]? = some (.cells #[.int .i64 0] 3 (0, 0)) ∧ w2.heap[w.heap.size + 1 + 1]? = some (.cells #[.int .i64 0] 43 (0, 0)) ∧
      w2.heap[w.heap.size + 1 + 1 + 1]? = some (curO v a') ∧ w.heap.size + 4 ≤ w2.heap.size := by
  have hs : wr.drew.heap.size = wr.heap.size := rfl
  have hs1 : (w1.alloc o).heap.size = w1.heap.size + 1 := by simp
  have hz := h.size
  have hd := hD.size
  have hlt : ∀ k, lv.ownBlock = some k → w.heap.size + 4 ≤ k := fun k hk => (World.ownsRow.lt h.own k hk).1
  have key : ∀ k, k < w.heap.size + 4 → w2.heap[k]? = w1.heap[k]? := fun k hk => by
    rw [hg.block k (by omega) (fun e => by have := hlt k e.symm; omega), Below.heap_alloc _ _ _ (by omega)]
  have key2 : ∀ k, k < w.heap.size + 3 → w2.heap[k]? = wr.heap[k]? := fun k hk => (key k (by omega)).trans (hD.block k (by omega) (by omega))
  refine ⟨⟨(hg.os.trans hD.os).trans h.low.os, (hg.tape.trans hD.tape).trans h.low.tape, (hg.output.trans hD.output).trans h.low.output, by have := hg.size; have := h.low.size; omega, fun k hk => (key2 k (by omega)).trans (h.low.block k hk)⟩,
    (key2 _ (by omega)).trans h.b0, (key2 _ (by omega)).trans h.b1, (key2 _ (by omega)).trans h.b2, (key _ (by omega)).trans hD.cur, by have := hg.size; omega⟩

theorem ReadI.stored {w w2 : World} {v lv lv2 : Value} {a' : Nat} {fs : List Fld} {j : Nat}
    (h : Below w.heap.size w w2 ∧ w2.heap[w.heap.size]? = some (.cells #[lv] 63 (0, 0)) ∧ w2.heap[w.heap.size + 1]? = some (.cells #[.int .i64 0] 3 (0, 0)) ∧ w2.heap[w.heap.size + 1 + 1]? = some (.cells #[.int .i64 0] 43 (0, 0)) ∧
      w2.heap[w.heap.size + 1 + 1 + 1]? = some (curO v a') ∧ w.heap.size + 4 ≤ w2.heap.size) (ho : OwnF w2 (w.heap.size + 4) lv2 fs) (hl : fs.length ≤ j) (hj : j ≤ 1000000000) : ReadI w v lv2 a' fs (w2.setCell ⟨w.heap.size, 0, none⟩ lv2) := by
  obtain ⟨h1, h2, h3, h4, h5, h6⟩ := h
  have hne : ∀ k, k ≠ w.heap.size → (w2.setCell ⟨w.heap.size, 0, none⟩ lv2).heap[k]? = w2.heap[k]? := fun k hk => Below.heap_setCell _ _ _ _ hk
  refine ⟨h1.setCell (p := ⟨w.heap.size, 0, none⟩) (Nat.le_refl _) _, ?_, (hne _ (by omega)).trans h3, (hne _ (by omega)).trans h4, (hne _ (by omega)).trans h5, ?_, by simpa [World.setCell] using h6, Nat.le_trans hl hj⟩
  · rw [heap_setCell_same w2 _ 0 #[lv] _ lv2 h2]; rfl
  · exact ownsRow_setCell_below ho (by show w.heap.size < w.heap.size + 4; omega) _

def calmQ (Q : Exit → Act → World → Prop) : Exit → Act → World → Prop
  | .normal, a, w => Q .normal a w
  | _, _, _ => False
theorem calm_n {Q : Exit → Act → World → Prop} {a : Act} {w : World} (h : Q .normal a w) : calmQ Q .normal a w := h
/-- a part of the code that neither panics nor jumps -/
theorem wp_calm {P : Program} {c : Code} {Q : Exit → Act → World → Prop} {a : Act} {w : World} (h : c.wp P (calmQ Q) a w) : c.wp P Q a w :=
  Code.wp_mono (fun e a w h => by cases e <;> first | exact h | exact h.elim) h

theorem news_lit (w1 : World) (f : Fld) (jj : Nat) (u : Value) (hu : f.cells[jj]? = some u) : (w1.alloc (.cells #[.int .i64 f.kind, .int .i64 f.num, .string ⟨f.text.toArray⟩, .bool f.is_] 92)).cell? ((⟨w1.heap.size, 0, none⟩ : Addr).add jj) = some u := by
  rw [Addr.add_lit, cell_of_row _ _ _ _ _ _ (heap_alloc_new w1 _)]
  simpa [Fld.cells] using hu

theorem ReadI.boxed {w wr w1 : World} {v lv : Value} {a a' : Nat} {fs : List Fld} (h : ReadI w v lv a fs wr) (hD : Rd (w.heap.size + 1 + 1 + 1) v wr.drew w1 a') : w1.cell? ⟨w.heap.size, 0, none⟩ = some lv := by
  have hz := h.size
  have hs : wr.drew.heap.size = wr.heap.size := rfl
  exact cell_of_row _ _ 0 _ _ _ ((hD.block _ (by omega) (by omega)).trans h.b0)
theorem ReadI.boxedA {w wr w1 : World} {v lv : Value} {a a' : Nat} {fs : List Fld} (h : ReadI w v lv a fs wr) (hD : Rd (w.heap.size + 1 + 1 + 1) v wr.drew w1 a') (o : Obj) : (w1.alloc o).cell? ⟨w.heap.size, 0, none⟩ = some lv := by
  have hz := h.size
  have hs : wr.drew.heap.size = wr.heap.size := rfl
  have hd := hD.size
  exact cell_of_row _ _ 0 _ _ _ (((Below.heap_alloc w1 o _ (by omega))).trans ((hD.block _ (by omega) (by omega)).trans h.b0))

theorem ReadI.start (w : World) (v : Value) : ReadI w v (.slice none 0 0) 0 [] ((((w.alloc (.cells #[.slice none 0 0] 63)).alloc (.cells #[.int .i64 0] 3)).alloc (.cells #[.int .i64 0] 43)).alloc (.cells #[v, .int .i64 0] 147)) := by
  have s1 : ∀ (o : Obj), (w.alloc o).heap.size = w.heap.size + 1 := fun o => by simp
  have s2 : ∀ (o o2 : Obj), ((w.alloc o).alloc o2).heap.size = w.heap.size + 1 + 1 := fun o o2 => by simp
  have s3 : ∀ (o o2 o3 : Obj), (((w.alloc o).alloc o2).alloc o3).heap.size = w.heap.size + 1 + 1 + 1 := fun o o2 o3 => by simp
  refine ⟨((((Below.refl _ _).alloc (Nat.le_refl _) _).alloc (by rw [s1]; omega) _).alloc (by rw [s2]; omega) _).alloc (by rw [s3]; omega) _, ?_, ?_, ?_, ?_, World.ownsRow_nil _ _ _ _, by simp, by simp⟩
  · rw [Below.heap_alloc _ _ _ (by rw [s3]; omega), Below.heap_alloc _ _ _ (by rw [s2]; omega), Below.heap_alloc _ _ _ (by rw [s1]; omega), heap_alloc_new]
  · rw [Below.heap_alloc _ _ _ (by rw [s3]; omega), Below.heap_alloc _ _ _ (by rw [s2]; omega), ← s1 (.cells #[.slice none 0 0] 63), heap_alloc_new]
  · rw [Below.heap_alloc _ _ _ (by rw [s3]; omega), ← s2 (.cells #[.slice none 0 0] 63) (.cells #[.int .i64 0] 3), heap_alloc_new]
  · rw [← s3 (.cells #[.slice none 0 0] 63) (.cells #[.int .i64 0] 3) (.cells #[.int .i64 0] 43), heap_alloc_new]; rfl

theorem owns_mono {w : World} {B B' n sz : Nat} {e : TypeId} {v : Value} {xs : List Value} (h : w.ownsRow B e sz v n xs) (hB : B' ≤ B) : w.ownsRow B' e sz v n xs := by
  obtain ⟨h1, h2⟩ := h
  refine ⟨h1, ?_⟩
  rcases h2 with h2 | ⟨g, cap, cur, hv, hb, r⟩
  · exact .inl h2
  · exact .inr ⟨g, cap, cur, hv, Nat.le_trans hB hb, r⟩
theorem owns_form {w : World} {B n sz : Nat} {e : TypeId} {v : Value} {xs : List Value} (h : w.ownsRow B e sz v n xs) : ∃ ao cap, v = .slice ao n cap := by
  rcases h.2 with ⟨rfl, h0⟩ | ⟨g, cap, cur, rfl, _⟩
  · exact ⟨none, 0, by rw [h0]⟩
  · exact ⟨_, _, rfl⟩

theorem textR_le (l : List UInt8) (a : Nat) (h : a ≤ l.length) : (textR l a).2.1 ≤ l.length := by
  have h1 := numR_le l 10 a 0 h
  unfold textR
  by_cases h2 : (numR l 10 a 0).2.2 ≠ 0
  · rw [if_pos h2]; exact h
  · rw [if_neg h2]
    by_cases h3 : l.length - (numR l 10 a 0).2.1 < (numR l 10 a 0).1
    · rw [if_pos h3]; exact h
    · rw [if_neg h3]; show (numR l 10 a 0).2.1 + (numR l 10 a 0).1 ≤ _; omega

theorem fieldR_le (l : List UInt8) (k : Int) (a : Nat) (h : a ≤ l.length) : (fieldR l k a).2.1 ≤ l.length := by
  have h1 := numR_le l 10 a 0 h
  have h2 := textR_le l a h
  unfold fieldR
  repeat' split
  all_goals first | exact h | exact h1 | exact h2 | (show a + 1 ≤ _; omega)

theorem owns_snoc {w : World} {B : Nat} {v : Value} {fs : List Fld} {f : Fld} (h : w.ownsRow B 92 4 v (fs.length + 1) (fs.flatMap Fld.cells ++ f.cells)) : OwnF w B v (fs ++ [f]) := by
  show World.ownsRow _ _ _ _ _ _ _
  rw [List.length_append, List.flatMap_append]
  simpa using h

theorem fld_cells (f : Fld) : ∀ u ∈ f.cells, u.oneCell' = true := by
  intro u hu
  simp [Fld.cells] at hu
  rcases hu with rfl | rfl | rfl | rfl <;> rfl

set_option maxRecDepth 100000 in
set_option maxHeartbeats 2000000 in
theorem code_Read (v vk : Value) (l : List UInt8) (ks : List Int) (w : World) (hb : Bts w w.heap.size v l) (hk : Ints w w.heap.size vk ks) (hl : l.length ≤ 1000000000) (hkl : ks.length ≤ 1000000000) :
    Calls Tryd.prog 77 #[v, vk] w fun e w' => ∃ lv, e = .returned (.tuple #[lv, .int .i64 ((readF l ks [] 0).2.1 : Nat), .int .i64 ((readF l ks [] 0).2.2 : Nat)]) ∧ Below w.heap.size w w' ∧ OwnF w' w.heap.size lv (readF l ks [] 0).1 := by
  have hmf : ∀ (fn : Fn) (first cap : Array Value) (w : World), (Instr.makeFunc fn first cap).run Tryd.prog w = .ok (.func fn first cap) w := fun _ _ _ _ => rfl
  obtain ⟨ao, cap, hv, _⟩ := id hb
  obtain ⟨ko, kcap, hvk, hkc, hkm, _⟩ := id hk
  generalize hR : readF l ks [] 0 = R at *
  have HR := Lib.hid hR
  have HBB := Lib.hid hb
  have HK := Lib.hid hk
  clear hR hb hk
  subst hvk
  have hkm' : ks.length ≤ 9223372036854775807 := by unfold maxLen at hkm; omega
  clear hkm
  generalize hN : ks.length = n at *
  have HN := Lib.hid hN
  clear hN
  go_enter_defers Tryd.func77, Tryd.ntmps77
  go_wp2
  have H0 := Lib.hid (ReadI.start w v)
  rw [← hv]
  clear hv
  go_loopw [9, 17] (fun k i wr => ∃ (j a : Nat) (lv : Value) (fs : List Fld), j ≤ n ∧ i = .int .i64 (j : Int) ∧ Hid (R = readF l (ks.drop j) fs a) ∧ Hid (a ≤ l.length) ∧ Hid (fs.length = j) ∧ Hid (ReadI w v lv a fs wr)) (fun _ i _ => n - (intOf i).toNat)
  case atStart => exact ⟨0, 0, _, [], by omega, rfl, HR.out.symm, Nat.zero_le _, rfl, H0⟩
  case round =>
    obtain ⟨j, a, lv, fs, hj, rfl, HQ, HA, HL, HI⟩ := hrel
    by_cases hlt : j < n
    · have hkr := HK.out.below HI.out.low HI.out.low.size
      obtain ⟨ko', kcap', he, _, _, h4⟩ := hkr
      injection he with e1 e2 e3
      subst e1 e3
      obtain ⟨b, off, rfl, hbw, hcell⟩ := h4 (fun h => by have := HN.out; rw [h] at this; simp at this; omega)
      have hcj := hcell j (by have := HN.out; omega)
      clear hcell h4 e2
      have hq := HQ.out
      have hdrop : ks.drop j = ks.getD j 0 :: ks.drop (j + 1) := by
        rw [List.drop_eq_getElem_cons (by have := HN.out; omega)]
        congr 1
        simp [List.getD, show j < ks.length by have := HN.out; omega]
      have hunf : ∀ k r, readF l (k :: r) fs a = if (fieldR l k a).2.2 ≠ 0 then ([], 0, (fieldR l k a).2.2) else readF l r (fs ++ [(fieldR l k a).1]) (fieldR l k a).2.1 := fun _ _ => rfl
      rw [hdrop, hunf] at hq
      clear hdrop hunf
      have hb3 := HI.out.b3
      have hbr : Bts wr (w.heap.size + 1 + 1 + 1) v l := HBB.out.below (HI.out.low) (by omega)
      have c1 := reader_field (w.heap.size + 1 + 1 + 1) v l (ks.getD j 0) a wr.drew hb3 (hbr.below (show Below _ wr wr.drew from ⟨rfl, rfl, rfl, Nat.le_refl _, fun _ _ => rfl⟩) (Nat.le_refl _)) HA.out (by omega)
      have hfle := fieldR_le l (ks.getD j 0) a HA.out
      generalize fieldR l (ks.getD j 0) a = T at *
      obtain ⟨⟨fk, fnum, ft, fb⟩, a', code⟩ := T
      simp only at hq hfle
      have HA2 := Lib.hid hfle
      clear hfle
      generalize ks.getD j 0 = k at *
      have hc0 : wr.cell? ⟨w.heap.size, 0, none⟩ = some lv := cell_of_row _ _ 0 _ _ _ HI.out.b0
      clear hb3 hbr
      by_cases hz : code = 0
      · subst hz
        rw [if_neg (by simp)] at hq
        have c2 : Calls Tryd.prog 88 #[.pointer (some ⟨w.heap.size + 1 + 1 + 1, 0, none⟩), .int .i64 k] wr.drew fun x w' => x = .returned (.agg #[.int .i64 fk, .int .i64 fnum, .string ⟨ft.toArray⟩, .bool fb]) ∧ Rd (w.heap.size + 1 + 1 + 1) v wr.drew w' a' :=
          c1.mono fun x w' h => by
            rcases h with ⟨_, h1, h2⟩ | ⟨h, _⟩
            · exact ⟨h1, h2⟩
            · exact absurd rfl h
        clear c1
        go_wp2
        have HQ2 := Lib.hid hq
        clear hq HQ
        obtain ⟨i0, hi, hz0, hz1, hz2⟩ := info_parts info_field
        have hsz := HI.out.size
        have hat := HI.out.at_
        refine wp_calm ?_
        go_region_law (first
          | (refine step_append_lies _ rfl (.tmp 21) (.tmp 25) 63 rfl (w.heap.size + 4) 92 i0 _ 4 40 Tryd.underlying63 hi hz0 hz1 hz2 rfl (by decide) lv fs.length (fs.flatMap Fld.cells) (by simp [Act.eval]) ((hD1.owns (by omega) HI.out.own).alloc _) ⟨w1.heap.size, 0, none⟩ 1 1 (Fld.cells ⟨fk, fnum, ft, fb⟩) (by simp [Act.eval]) rfl
              (fun jj u hu => news_lit w1 ⟨fk, fnum, ft, fb⟩ jj u hu) (fld_cells ⟨fk, fnum, ft, fb⟩) (by decide) (by unfold maxLen; omega) (by omega) (by have h5 := hD1.size; have h6 : wr.drew.heap.size = wr.heap.size := rfl; simp; omega) _ rfl ?_; intro g cap2 w2 hown2 hg2 _ _; have hbe := HI.out.behind hD1 hg2; have hcs := cell_of_row _ _ 0 _ _ _ hbe.2.1; have hfs := frozen_of_row _ _ 0 _ _ hbe.2.1)
          | (go_simp; go_at_call 88; refine c2.mono ?_; rintro e w1 ⟨rfl, hD1⟩; have hw1 : w1.cell? ⟨w.heap.size, 0, none⟩ = some lv := HI.out.boxed hD1; have hw1a : ∀ o, (w1.alloc o).cell? ⟨w.heap.size, 0, none⟩ = some lv := HI.out.boxedA hD1))
        all_goals
          show Exit.inBlock 1 _ Exit.normal _ _
          have HBE := Lib.hid hbe
          have HOW := Lib.hid (owns_snoc hown2)
          clear hbe hcs hfs hown2 hg2 hw1 hw1a hD1
          go_wp2_with fail
          go_roundw
          case rel => exact ⟨j + 1, a', _, fs ++ [⟨fk, fnum, ft, fb⟩], by omega, by go_num, HQ2, HA2, by have := HL.out; show _ = _; simp [this], ReadI.stored (j := j + 1) HBE.out HOW.out (by have := HL.out; simp [this]) (by omega)⟩
          case measure => simp [intOf]; omega
      · rw [if_pos hz] at hq
        have HQ2 := Lib.hid hq
        have c2 : Calls Tryd.prog 88 #[.pointer (some ⟨w.heap.size + 1 + 1 + 1, 0, none⟩), .int .i64 k] wr.drew fun x w' => x = gaveUp (code : Int) ∧ ∃ a2, Rd (w.heap.size + 1 + 1 + 1) v wr.drew w' a2 :=
          c1.mono fun x w' h => by
            rcases h with ⟨h, _⟩ | ⟨_, h1, h2⟩
            · exact absurd h hz
            · exact ⟨h1, h2⟩
        obtain ⟨lo, lcap, hlv⟩ := owns_form HI.out.own
        generalize hfl : fs.length = fl at hlv
        subst hlv
        clear c1 hq HQ hz
        go_wp2
        refine panic_region (by kernel_rfl) rfl rfl rfl rfl (by kernel_rfl) (by kernel_rfl) (by simp) rfl hc0 rfl rfl c2 ?_
        rintro a' w' hfr hdf ⟨a2, hD⟩
        have h4 : a'.tmps.getD 4 undef = .pointer (some ⟨w.heap.size, 0, none⟩) := hfr 4 (by decide)
        have h5 : a'.tmps.getD 5 undef = .pointer (some ⟨w.heap.size + 1, 0, none⟩) := hfr 5 (by decide)
        have h6 : a'.tmps.getD 6 undef = .pointer (some ⟨w.heap.size + 1 + 1, 0, none⟩) := hfr 6 (by decide)
        rw [Array.getD_eq_getD_getElem?] at h4 h5 h6
        have hsz := HI.out.size
        have hsd : wr.drew.heap.size = wr.heap.size := rfl
        have k0 : w'.heap[w.heap.size]? = _ := (hD.block _ (by omega) (by omega)).trans HI.out.b0
        have k1 : w'.heap[w.heap.size + 1]? = _ := (hD.block _ (by omega) (by omega)).trans HI.out.b1
        have k2 : w'.heap[w.heap.size + 1 + 1]? = _ := (hD.block _ (by omega) (by omega)).trans HI.out.b2
        show Leaves Tryd.prog Tryd.f77 a'.tmps (fun e w' => ∃ lv, e = .returned (.tuple #[lv, .int .i64 (R.2.1 : Nat), .int .i64 (R.2.2 : Nat)]) ∧ Below w.heap.size w w' ∧ OwnF w' w.heap.size lv R.1) a'.defers (.panicking _) w'
        rw [hdf]
        refine leaves_cons (f := 87) (args := #[.pointer (some ⟨w.heap.size, 0, none⟩), .pointer (some ⟨w.heap.size + 1, 0, none⟩), .pointer (some ⟨w.heap.size + 1 + 1, 0, none⟩)]) (by simp) (by simp [go_sem]) ?_
        refine (catch_no _ _ _ (code : Int) _ _ _ _ _ (cell_of_row _ _ 0 _ _ _ k0) (cell_of_row _ _ 0 _ _ _ k1) (cell_of_row _ _ 0 _ _ _ k2) (frozen_of_row _ _ 0 _ _ k0) (frozen_of_row _ _ 0 _ _ k1) (frozen_of_row _ _ 0 _ _ k2) (by omega) (by omega) (by omega)).mono ?_
        rintro e u' w'' ⟨rfl, rfl, rfl⟩
        rw [HQ2.out]
        have hc3 := cell_of_row _ _ 0 _ _ _ k0
        have hc4 := cell_of_row _ _ 0 _ _ _ k1
        have hc5 := cell_of_row _ _ 0 _ _ _ k2
        simp [Leaves, settle, results, Tryd.results77, go_sem, h4, h5, h6, hc3, hc4, hc5]
        have low := HI.out.low
        have b0 : Below w.heap.size w w' := ⟨hD.os.trans low.os, hD.tape.trans low.tape, hD.output.trans low.output, by have := hD.size; have := low.size; omega, fun k hk => (hD.block k (by omega) (by omega)).trans (low.block k hk)⟩
        have b3 := ((b0.setCell (p := ⟨w.heap.size, 0, none⟩) (Nat.le_refl _) (.slice none 0 0)).setCell (p := ⟨w.heap.size + 1, 0, none⟩) (Nat.le_succ _) (.int .i64 0)).setCell (p := ⟨w.heap.size + 1 + 1, 0, none⟩) (Nat.le_trans (Nat.le_succ _) (Nat.le_succ _)) (.int .i64 (code : Int))
        exact ⟨b3, World.ownsRow_nil _ _ _ _⟩
    · have hjn : j = n := by omega
      obtain ⟨lo, lcap, hlv⟩ := owns_form HI.out.own
      generalize hfl : fs.length = fl at hlv
      subst hlv
      have hq := HQ.out
      rw [List.drop_eq_nil_of_le (by have := HN.out; omega)] at hq
      have hq2 : R = (fs, a, 0) := hq
      have HRR := Lib.hid hq2
      have hc0 : wr.cell? ⟨w.heap.size, 0, none⟩ = some (.slice lo fl lcap) := cell_of_row _ _ 0 _ _ _ HI.out.b0
      have hc1 : wr.cell? ⟨w.heap.size + 1, 0, none⟩ = some (.int .i64 0) := cell_of_row _ _ 0 _ _ _ HI.out.b1
      have hc2 : wr.cell? ⟨w.heap.size + 1 + 1, 0, none⟩ = some (.int .i64 0) := cell_of_row _ _ 0 _ _ _ HI.out.b2
      have hc3 : wr.cell? ⟨w.heap.size + 1 + 1 + 1, 1, none⟩ = some (.int .i64 (a : Int)) := cell_of_row _ _ 1 _ _ _ HI.out.b3
      have hf0 : wr.frozen? ⟨w.heap.size, 0, none⟩ = false := frozen_of_row _ _ 0 _ _ HI.out.b0
      have hf1 : wr.frozen? ⟨w.heap.size + 1, 0, none⟩ = false := frozen_of_row _ _ 0 _ _ HI.out.b1
      have hf2 : wr.frozen? ⟨w.heap.size + 1 + 1, 0, none⟩ = false := frozen_of_row _ _ 0 _ _ HI.out.b2
      clear hq hq2 HQ HR hjn hfl
      go_wp2
      refine wp_calm ?_
      go_region
      all_goals
        refine calm_n ?_
        go_wp2
      refine leaves_cons (f := 87) (args := #[.pointer (some ⟨w.heap.size, 0, none⟩), .pointer (some ⟨w.heap.size + 1, 0, none⟩), .pointer (some ⟨w.heap.size + 1 + 1, 0, none⟩)]) (by simp) (by simp [go_sem]) ?_
      refine (catch_idle _ _ _ _).mono ?_
      rintro e u' w'' ⟨rfl, rfl, rfl⟩
      rw [HRR.out]
      simp [Leaves, settle, results, Tryd.results77, go_sem, hc0, hc1, hc2]
      have b3 := ((HI.out.low.setCell (p := ⟨w.heap.size, 0, none⟩) (Nat.le_refl _) (.slice lo fl lcap)).setCell (p := ⟨w.heap.size + 1, 0, none⟩) (Nat.le_succ _) (.int .i64 (a : Int))).setCell (p := ⟨w.heap.size + 1 + 1, 0, none⟩) (Nat.le_trans (Nat.le_succ _) (Nat.le_succ _)) (.int .i64 0)
      have o3 := ownsRow_setCell_below (a := ⟨w.heap.size + 1 + 1, 0, none⟩) (ownsRow_setCell_below (a := ⟨w.heap.size + 1, 0, none⟩) (ownsRow_setCell_below (a := ⟨w.heap.size, 0, none⟩) HI.out.own (by show w.heap.size < w.heap.size + 4; omega) (.slice lo fl lcap)) (by show w.heap.size + 1 < w.heap.size + 4; omega) (.int .i64 (a : Int))) (by show w.heap.size + 1 + 1 < w.heap.size + 4; omega) (.int .i64 0)
      exact ⟨⟨b3.os, b3.tape, b3.output, b3.size, b3.block⟩, owns_mono o3 (by omega)⟩

end Go.Proofs.YtgnpjenpehfjbaaDoor

namespace Go.Proofs.YtgnpjenpehfjbaaDoor
open Go.RowKit

theorem and127_u64 (z : Nat) (hz : z < 18446744073709551616) : bits .and .u64 (z : Int) 127 = ((z % 128 : Nat) : Int) := by
  have h := bits_and_u64 z 127 hz (by decide)
  rw [show (127 : Nat) = 2 ^ 7 - 1 from rfl, Nat.and_two_pow_sub_one_eq_mod] at h
  exact h
theorem or128_small (z : Nat) : bits .or .u8 ((z % 128 : Nat) : Int) 128 = ((UInt8.ofNat (z % 128 + 128)).toNat : Int) := by
  have h := or128_all ⟨z % 128, by omega⟩
  rw [h]
  have : (UInt8.ofNat (z % 128 + 128)).toNat = z % 128 + 128 := by simp; omega
  rw [this]
  show (((z % 128) % 128 + 128 : Nat) : Int) = _
  rw [Nat.mod_mod]

set_option maxRecDepth 100000 in
set_option maxHeartbeats 1000000 in
theorem ref_Number (v : Value) (l : List UInt8) (x : Nat) (w : World) (hx : x < 18446744073709551616) (hb : Bts w w.heap.size v l) (hl : l.length ≤ 1000000000000) :
    Calls Tryd.prog 38 #[v, .int .u64 (x : Int)] w fun e w' => ∃ v', e = .returned v' ∧ Own w' w.heap.size v' (l ++ vint x) ∧ Below w.heap.size w w' := by
  have HBB := Lib.hid hb
  clear hb
  go_enter Tryd.func38, Tryd.ntmps38
  go_wp2_with (at_builtin; (refine wpList_append_bts rfl _ _ rfl w.heap.size _ [] rfl (Own.nil _ _) v l w.heap.size rfl HBB.out (by simp; omega) (Nat.le_refl _) ?_))
  intro v1 w1 hown1 hg1 _
  have HO := Lib.hid hown1
  have HB1 := Lib.hid ((Below.refl w.heap.size w).grown hg1 (Nat.le_refl _) (fun k hk => by cases hk))
  clear hown1 hg1
  go_wp2_with fail
  go_loopw [5, 1] (fun b y wr => ∃ (f z : Nat) (pre : List UInt8), y = .int .u64 (z : Int) ∧ z < 18446744073709551616 ∧ Hid (z < 128 ^ f) ∧ Hid (pre ++ vintF f z = vint x) ∧ Hid (pre.length + f = 10) ∧ Hid (Own wr w.heap.size b (l ++ pre)) ∧ Hid (Below w.heap.size w wr)) (fun _ y _ => (intOf y).toNat)
  case atStart => exact ⟨10, x, [], rfl, hx, Nat.lt_of_lt_of_le hx (by decide), rfl, rfl, by show Own _ _ _ _; rw [List.append_nil]; exact HO.out, HB1⟩
  case round =>
    obtain ⟨f, z, pre, rfl, hz, HZ, HP, HL, HOw, HB⟩ := hrel
    have hor := or128_small z
    have hand := and127_u64 z hz
    have hmd : z % 128 < 128 := Nat.mod_lt _ (by decide)
    have hsz := HB.out.size
    have hpl : pre.length ≤ 10 := by have := HL.out; omega
    by_cases h127 : 127 < z
    · obtain ⟨f, rfl⟩ : ∃ f', f = f' + 1 := by
        cases f with
        | zero => have := HZ.out; simp at this; omega
        | succ f => exact ⟨f, rfl⟩
      have hst := vintF_more f z h127
      have hP := HP.out
      rw [hst] at hP
      have HP2 := Lib.hid hP
      have HZ2 : Hid (z / 128 < 128 ^ f) := by
        have := HZ.out
        rw [Nat.pow_succ] at this
        exact (Nat.div_lt_iff_lt_mul (by decide)).2 this
      clear hst hP HP HZ
      generalize UInt8.ofNat (z % 128 + 128) = c at *
      generalize z % 128 = zm at *
      have hO1 : Own (wr.alloc (.cells #[.int .u8 (c.toNat : Int)] 5)) w.heap.size u5 (l ++ pre) := HOw.out.alloc _
      go_wp2_with (at_builtin; (refine wpList_append_bts rfl _ _ rfl w.heap.size _ (l ++ pre) rfl hO1 _ [c] (wr.heap.size + 1) rfl ((Bts.lit _ wr.heap.size _ 5 (0, 0) [c] 1 1 (heap_alloc_new wr _) rfl (by omega) (by decide) (lit1 c)).mono (by simp)) (by simp; omega) (by simp; omega) ?_))
      intro v2 w2 hown2 hg2 _
      have hB2 : Below w.heap.size w w2 := (HB.out.alloc (by omega) _).grown hg2 (by simp; omega) (fun j hj => (hO1.lt j hj).1)
      have HO2 := Lib.hid hown2
      have HB2 := Lib.hid hB2
      clear hown2 hB2 hO1 hg2
      go_wp2_with fail
      go_roundw
      case rel => exact ⟨f, z / 128, pre ++ [c], by go_num, by omega, HZ2, by rw [List.append_assoc]; exact HP2.out, by have := HL.out; show (pre ++ [c]).length + f = 10; rw [List.length_append, List.length_singleton]; omega, HO2, HB2⟩
      case measure => simp [intOf]; omega
    · obtain ⟨c, rfl⟩ : ∃ c : UInt8, z = c.toNat := ⟨UInt8.ofNat z, by simp; omega⟩
      have hst := vintF_last f c.toNat h127
      have hP := HP.out
      rw [hst, UInt8.ofNat_toNat] at hP
      have HP2 := Lib.hid hP
      clear hst hP HP HZ hor hand hmd
      have hcv : ((c.toNat : Int) % 256) = (c.toNat : Int) := by omega
      have hO1 : Own (wr.alloc (.cells #[.int .u8 (c.toNat : Int)] 5)) w.heap.size u5 (l ++ pre) := HOw.out.alloc _
      go_wp2_with (at_builtin; (refine wpList_append_bts rfl _ _ rfl w.heap.size _ (l ++ pre) rfl hO1 _ [c] (wr.heap.size + 1) rfl ((Bts.lit _ wr.heap.size _ 5 (0, 0) [c] 1 1 (heap_alloc_new wr _) rfl (by omega) (by decide) (lit1 c)).mono (by simp)) (by simp; omega) (by simp; omega) ?_))
      intro v2 w2 hown2 hg2 _
      have hB2 : Below w.heap.size w w2 := (HB.out.alloc (by omega) _).grown hg2 (by simp; omega) (fun j hj => (hO1.lt j hj).1)
      rw [HP2.out] at hown2
      clear hO1 hg2
      go_wp2_with fail
      go_ret
      exact ⟨_, rfl, hown2, hB2⟩

theorem zig_pos (y : Int) (h : 0 ≤ y) : (zig y : Int) = 2 * y := by unfold zig; rw [if_pos h]; omega
theorem zig_neg (y : Int) (h : y < 0) : (zig y : Int) = 2 * (-(y + 1)) + 1 := by unfold zig; rw [if_neg (by omega)]; omega

set_option maxRecDepth 100000 in
theorem ref_Signed (v : Value) (l : List UInt8) (y : Int) (w : World) (h0 : -9223372036854775808 ≤ y) (h1 : y < 9223372036854775808) (hb : Bts w w.heap.size v l) (hl : l.length ≤ 1000000000) :
    Calls Tryd.prog 67 #[v, .int .i64 y] w fun e w' => ∃ v', e = .returned v' ∧ Own w' w.heap.size v' (l ++ vint (zig y)) ∧ Below w.heap.size w w' := by
  have c2 := ref_Number v l (zig y) w (zig_lt y h0 h1) hb (by omega)
  by_cases hy : 0 ≤ y
  · rw [zig_pos y hy] at c2
    have e1 : IntKind.u64.wrap (2 * y) = 2 * y := by rw [IntKind.wrap_u64]; omega
    have e2 : IntKind.u64.wrap y = y := by rw [IntKind.wrap_u64]; omega
    go_enter Tryd.func67, Tryd.ntmps67
    go_wp2_with fail
    refine c2.mono ?_
    rintro e w2 ⟨v2, rfl, hown2, hB2⟩
    go_wp2
    go_ret
    exact ⟨_, rfl, hown2, hB2⟩
  · rw [zig_neg y (by omega)] at c2
    have hy' : y < 0 := by omega
    go_enter Tryd.func67, Tryd.ntmps67
    go_wp2_with fail
    refine c2.mono ?_
    rintro e w2 ⟨v2, rfl, hown2, hB2⟩
    go_wp2
    go_ret
    exact ⟨_, rfl, hown2, hB2⟩

theorem strCells_bytes (ts : List UInt8) : Lib.strCells ⟨ts.toArray⟩ = ts.map byteV := by
  simp [Lib.strCells]

/-- append(s, text...) : s of the call's own -/
theorem wpList_append_text {w : World} {ops : Array Oper} {rest : List Oper} {o : Oper} {a : Act} {Q : Exit → Act → World → Prop} (hgd : o.guard = none) (s x : Operand)
    (ho : o.op = .call { callee := .builtin .append, args := #[s, x], argTypes := #[27, 9] })
    (base : Nat) (v : Value) (xs : List UInt8) (hs : a.eval s = v) (hown : Own w base v xs) (ts : List UInt8) (hx : a.eval x = .string ⟨ts.toArray⟩)
    (hlen : xs.length + ts.length ≤ 140737488355328) (hbase : base ≤ w.heap.size)
    (h : ∀ v' w', Own w' base v' (xs ++ ts) → w.grownBy w' v.ownBlock → wpList Tryd.prog ops Q rest (a.put o.dst v') w') : wpList Tryd.prog ops Q (o :: rest) a w := by
  obtain ⟨i0, hi, hz0, hz1, hz2⟩ := info_parts info_u8
  have hsz : (⟨ts.toArray⟩ : ByteArray).size = ts.length := rfl
  refine Lib.wpList_append_own_string _ hgd s x _ _ ho base 5 i0 Tryd.underlying27 Tryd.underlying9 hi hz0 hz1 hz2 v xs.length (xs.map byteV) hs hown ⟨ts.toArray⟩ hx (by rw [hsz]; unfold maxLen; omega) (by rw [hsz]; omega) hbase ?_
  intro v' w' ho' hg _
  refine h v' w' ?_ hg
  rw [hsz, strCells_bytes] at ho'
  show World.ownsRow _ _ _ _ _ _ _
  rw [List.length_append, List.map_append]
  exact ho'

set_option maxRecDepth 100000 in
theorem ref_Text (v : Value) (l ts : List UInt8) (w : World) (hb : Bts w w.heap.size v l) (hl : l.length ≤ 1000000000) (ht : ts.length ≤ 1000000000) :
    Calls Tryd.prog 65 #[v, .string ⟨ts.toArray⟩] w fun e w' => ∃ v', e = .returned v' ∧ Own w' w.heap.size v' (l ++ (vint ts.length ++ ts)) ∧ Below w.heap.size w w' := by
  have c2 := ref_Number v l ts.length w (by omega) hb (by omega)
  have hvl := vint_len ts.length (by omega)
  have hsz : (⟨ts.toArray⟩ : ByteArray).size = ts.length := rfl
  go_enter Tryd.func65, Tryd.ntmps65
  go_wp2_with fail
  refine c2.mono ?_
  rintro e w2 ⟨v2, rfl, hown2, hB2⟩
  clear c2 hsz
  go_wp2_with (at_builtin; (refine wpList_append_text rfl _ _ rfl w.heap.size _ (l ++ vint ts.length) rfl hown2 ts rfl (by simp; omega) hB2.size ?_))
  intro v3 w3 hown3 hg3
  have hB3 : Below w.heap.size w w3 := hB2.grown hg3 hB2.size (fun j hj => (hown2.lt j hj).1)
  clear hown2 hg3 hB2
  go_wp2_with fail
  go_ret
  exact ⟨_, rfl, hown3, hB3⟩

def flagN (b : Bool) : Nat := if b then 1 else 0
set_option maxRecDepth 100000 in
theorem ref_Flag (v : Value) (l : List UInt8) (b : Bool) (w : World) (hb : Bts w w.heap.size v l) (hl : l.length ≤ 1000000000) :
    Calls Tryd.prog 66 #[v, .bool b] w fun e w' => ∃ v', e = .returned v' ∧ Own w' w.heap.size v' (l ++ vint (flagN b)) ∧ Below w.heap.size w w' := by
  have c2 := ref_Number v l (flagN b) w (by unfold flagN; split <;> omega) hb (by omega)
  cases b
  all_goals
    have c3 := c2
    simp only [flagN] at c3
    clear c2
    go_enter Tryd.func66, Tryd.ntmps66
    go_wp2_with fail
    refine c3.mono ?_
    rintro e w2 ⟨v2, rfl, hown2, hB2⟩
    go_wp2
    go_ret
    exact ⟨_, rfl, hown2, hB2⟩

set_option maxRecDepth 100000 in
theorem code_Flag (v : Value) (l : List UInt8) (b : Bool) (w : World) (hb : Bts w w.heap.size v l) (hl : l.length ≤ 1000000000) :
    Calls Tryd.prog 55 #[v, .bool b] w fun e w' => ∃ v', e = .returned v' ∧ Own w' w.heap.size v' (l ++ vint (flagN b)) ∧ Below w.heap.size w w' := by
  have c1 := code_own v l 1 w hb (by omega) (by omega)
  cases b
  · go_enter Tryd.func55, Tryd.ntmps55
    go_wp2_with fail
    refine c1.mono ?_
    rintro e w1 ⟨v1, rfl, hown1, hB1⟩
    clear c1
    have hsz := hB1.size
    have hO1 : Own (w1.alloc (.cells #[.int .u8 0] 5)) w.heap.size v1 l := hown1.alloc _
    go_wp2_with (at_builtin; (refine wpList_append_bts rfl _ _ rfl w.heap.size _ l rfl hO1 _ [0] (w1.heap.size + 1) rfl ((Bts.lit _ w1.heap.size _ 5 (0, 0) [0] 1 1 (heap_alloc_new w1 _) rfl (by omega) (by decide) (lit1 0)).mono (by simp)) (by simp; omega) (by simp; omega) ?_))
    intro v2 w2 hown2 hg2 _
    have hB2 : Below w.heap.size w w2 := (hB1.alloc (by omega) _).grown hg2 (by simp; omega) (fun j hj => (hO1.lt j hj).1)
    clear hO1 hg2 hown1
    go_wp2_with fail
    go_ret
    exact ⟨_, rfl, hown2, hB2⟩
  · go_enter Tryd.func55, Tryd.ntmps55
    go_wp2_with fail
    refine c1.mono ?_
    rintro e w1 ⟨v1, rfl, hown1, hB1⟩
    clear c1
    have hsz := hB1.size
    have hO1 : Own (w1.alloc (.cells #[.int .u8 1] 5)) w.heap.size v1 l := hown1.alloc _
    go_wp2_with (at_builtin; (refine wpList_append_bts rfl _ _ rfl w.heap.size _ l rfl hO1 _ [1] (w1.heap.size + 1) rfl ((Bts.lit _ w1.heap.size _ 5 (0, 0) [1] 1 1 (heap_alloc_new w1 _) rfl (by omega) (by decide) (lit1 1)).mono (by simp)) (by simp; omega) (by simp; omega) ?_))
    intro v2 w2 hown2 hg2 _
    have hB2 : Below w.heap.size w w2 := (hB1.alloc (by omega) _).grown hg2 (by simp; omega) (fun j hj => (hO1.lt j hj).1)
    clear hO1 hg2 hown1
    go_wp2_with fail
    go_ret
    exact ⟨_, rfl, hown2, hB2⟩

end Go.Proofs.YtgnpjenpehfjbaaDoor

namespace Go.Proofs.YtgnpjenpehfjbaaDoor
open Go.RowKit

/-- the document's reader's block: its bytes, its place, its code -/
abbrev refO (vb : Value) (at_ c : Nat) : Obj := .cells #[vb, .int .i64 (at_ : Int), .int .i64 (c : Int)] 126 (0, 0)
/-- all but block rb as it was, and that block as o says -/
structure Rx (rb : Nat) (o : Obj) (w w' : World) : Prop where
  os : w'.os = w.os
  tape : w'.tape = w.tape
  output : w'.output = w.output
  size : w.heap.size ≤ w'.heap.size
  block : ∀ k, k < w.heap.size → k ≠ rb → w'.heap[k]? = w.heap[k]?
  cur : w'.heap[rb]? = some o
  lt : rb < w.heap.size
theorem Rx.refl {rb : Nat} {o : Obj} {w : World} (h : w.heap[rb]? = some o) : Rx rb o w w := ⟨rfl, rfl, rfl, Nat.le_refl _, fun _ _ _ => rfl, h, (Array.getElem?_eq_some_iff.1 h).1⟩
theorem Rx.trans {rb : Nat} {o o2 : Obj} {w w1 w2 : World} (h : Rx rb o w w1) (g : Rx rb o2 w1 w2) : Rx rb o2 w w2 :=
  ⟨g.os.trans h.os, g.tape.trans h.tape, g.output.trans h.output, Nat.le_trans h.size g.size, fun k hk hne => (g.block k (Nat.lt_of_lt_of_le hk h.size) hne).trans (h.block k hk hne), g.cur, h.lt⟩
theorem Rx.drew {rb : Nat} {o : Obj} {w w' : World} (h : Rx rb o w w') (n : Nat) : Rx rb o w (w'.drewN n) := ⟨h.os, h.tape, h.output, h.size, h.block, h.cur, h.lt⟩
theorem Rx.alloc {rb : Nat} {o : Obj} {w w' : World} (h : Rx rb o w w') (o2 : Obj) : Rx rb o w (w'.alloc o2) := by
  have hrb := (Array.getElem?_eq_some_iff.1 h.cur).1
  refine ⟨h.os, h.tape, h.output, by simp; exact Nat.le_succ_of_le h.size, fun k hk hne => ?_, ?_, h.lt⟩
  · rw [Below.heap_alloc _ _ _ (Nat.lt_of_lt_of_le hk h.size)]; exact h.block k hk hne
  · rw [Below.heap_alloc _ _ _ hrb]; exact h.cur
theorem Rx.below {rb : Nat} {o : Obj} {w w' : World} (h : Rx rb o w w') : Below rb w w' := ⟨h.os, h.tape, h.output, h.size, fun k hk => h.block k (by have := h.lt; omega) (by omega)⟩
theorem Rx.bts {rb : Nat} {o : Obj} {w w' : World} (h : Rx rb o w w') {v : Value} {l : List UInt8} (hb : Bts w rb v l) : Bts w' rb v l := hb.below h.below (Nat.le_refl _)
theorem Rx.step {rb : Nat} {vb : Value} {w w' : World} {a c : Nat} (h : Rx rb (refO vb a c) w w') (b : Nat) : Rx rb (refO vb b c) w (w'.setCell ⟨rb, 1, none⟩ (.int .i64 (b : Int))) := by
  refine ⟨h.os, h.tape, h.output, by simpa [World.setCell] using h.size, fun k hk hne => ?_, ?_, h.lt⟩
  · rw [Below.heap_setCell _ _ _ _ hne]; exact h.block k hk hne
  · rw [heap_setCell_same w' rb 1 _ _ _ h.cur]; rfl
theorem Rx.code {rb : Nat} {vb : Value} {w w' : World} {a c : Nat} (h : Rx rb (refO vb a c) w w') (b : Nat) : Rx rb (refO vb a b) w (w'.setCell ⟨rb, 2, none⟩ (.int .i64 (b : Int))) := by
  refine ⟨h.os, h.tape, h.output, by simpa [World.setCell] using h.size, fun k hk hne => ?_, ?_, h.lt⟩
  · rw [Below.heap_setCell _ _ _ _ hne]; exact h.block k hk hne
  · rw [heap_setCell_same w' rb 2 _ _ _ h.cur]; rfl
theorem Rx.fresh {rb : Nat} {o : Obj} {w w' : World} (h : Rx rb o w w') {g : Nat} (hg : w.heap.size ≤ g) (j : Nat) (v : Value) : Rx rb o w (w'.setCell ⟨g, j, none⟩ v) := by
  have := h.lt
  refine ⟨h.os, h.tape, h.output, by simpa [World.setCell] using h.size, fun k hk hne => ?_, ?_, h.lt⟩
  · rw [Below.heap_setCell _ _ _ _ (show k ≠ g by omega)]; exact h.block k hk hne
  · rw [Below.heap_setCell _ _ _ _ (show rb ≠ g by omega)]; exact h.cur

abbrev RNumPost (rb : Nat) (vb : Value) (w : World) (R : Nat × Nat × Nat) (x : Ending) (w' : World) : Prop :=
  (R.2.2 = 0 ∧ x = .returned (.int .u64 (R.1 : Int)) ∧ Rx rb (refO vb R.2.1 0) w w') ∨ (R.2.2 ≠ 0 ∧ x = .returned (.int .u64 0) ∧ ∃ a, Rx rb (refO vb a R.2.2) w w')

set_option maxRecDepth 100000 in
set_option maxHeartbeats 4000000 in
theorem ref_Num (rb : Nat) (vb : Value) (l : List UInt8) (at_ : Nat) (w : World) (hc : w.heap[rb]? = some (refO vb at_ 0)) (hb : Bts w rb vb l) :
    Calls Tryd.prog 79 #[.pointer (some ⟨rb, 0, none⟩)] w fun x w' => RNumPost rb vb w (numR l 10 at_ 0) x w' := by
  have hR0 : Hid (numR l 10 at_ 0 = numR l 10 at_ 0) := rfl
  generalize hRR : numR l 10 at_ 0 = R at *
  have HR := Lib.hid hRR
  clear hRR hR0
  have HC := Lib.hid (Rx.refl hc)
  have HBB := Lib.hid hb
  obtain ⟨ao, cap, hv, _⟩ := id hb
  clear hc hb
  generalize hn : l.length = n at *
  have HN := Lib.hid hn
  clear hn
  subst hv
  go_enter Tryd.func79, Tryd.ntmps79
  go_wp2_with fail
  go_loopw [3, 4, 5] (fun x k c wr => ∃ (i f a acc : Nat), i + f = 9 ∧ k = .int .i64 (i : Int) ∧ x = .int .u64 (acc : Int) ∧ Hid (acc < 128 ^ i) ∧ Hid (R = numR l (f + 1) a acc) ∧ Hid (Rx rb (refO (.slice ao n cap) a 0) w wr)) (fun _ k _ _ => 10 - (intOf k).toNat)
  case atStart => exact ⟨0, 9, at_, 0, by omega, rfl, rfl, by show 0 < _; decide, HR.out.symm, HC⟩
  case round =>
    obtain ⟨i, f, a, acc, hf, rfl, rfl, HA, HQ, HD⟩ := hrel
    have hQ := HQ.out
    have hst : numR l (f + 1) a acc = if l.length ≤ a then (0, a, 21)
      else if (f < 9 ∧ (l.getD a 0).toNat = 0) ∨ (f = 0 ∧ 1 < (l.getD a 0).toNat) then (0, a, 20)
      else if (l.getD a 0).toNat < 128 then (acc + (l.getD a 0).toNat * 128 ^ (9 - f), a + 1, 0)
      else numR l f (a + 1) (acc + ((l.getD a 0).toNat - 128) * 128 ^ (9 - f)) := rfl
    rw [hst, show 9 - f = i by omega, HN.out] at hQ
    clear hst
    have hbr := HD.out.bts HBB.out
    have h0 : wr.cell? ⟨rb, 0, none⟩ = some (.slice ao n cap) := cell_of_row wr rb 0 _ _ _ HD.out.cur
    have h1 : wr.cell? ⟨rb, 1, none⟩ = some (.int .i64 (a : Int)) := cell_of_row wr rb 1 _ _ _ HD.out.cur
    have h2 : wr.cell? ⟨rb, 2, none⟩ = some (.int .i64 0) := cell_of_row wr rb 2 _ _ _ HD.out.cur
    have hf1 : wr.frozen? ⟨rb, 1, none⟩ = false := frozen_of_row wr rb 1 _ _ HD.out.cur
    have hf2 : wr.frozen? ⟨rb, 2, none⟩ = false := frozen_of_row wr rb 2 _ _ HD.out.cur
    have hnl : n ≤ 9223372036854775807 := by have := hbr.len; rw [HN.out] at this; exact this
    by_cases hat : n ≤ a
    · rw [if_pos hat] at hQ
      have HQ' := Lib.hid hQ
      clear hQ hbr HQ
      go_wp2
      go_quiet (fail)
      go_wp2
      go_ret
      refine .inr ?_
      rw [HQ'.out]
      exact ⟨by simp, rfl, a, (HD.out.drew _).code 21⟩
    · rw [if_neg hat] at hQ
      obtain ⟨ao', cap', he, hcp, _, _, hx⟩ := hbr
      injection he with e1 e2 e3
      subst e1 e3
      obtain ⟨b, off, rfl, hbrb, hcell⟩ := hx (fun h => by have := HN.out; rw [h] at this; simp at this; omega)
      have hca := hcell a (by have := HN.out; omega)
      have haccb : acc < 18446744073709551616 := Nat.lt_of_lt_of_le HA.out (Nat.le_trans (Nat.pow_le_pow_right (by decide) (show i ≤ 9 by omega)) (by decide))
      have hne : b ≠ rb := by omega
      have hlt : a < n := by omega
      clear hcell hx hcp e2 hat
      generalize l.getD a 0 = c at *
      have hcl0 := c.toNat_lt

      by_cases hb1 : f < 9 ∧ c.toNat = 0
      · rw [if_pos (.inl hb1)] at hQ
        obtain ⟨hf9, hc0⟩ := hb1
        have hc0' : ((c.toNat : Int) == 0) = true := by rw [hc0]; rfl
        have hc1' : ¬ 1 < c.toNat := by omega
        have hi0 : 0 < i := by omega
        have hdi : (decide (1 < c.toNat)) = false := by rw [decide_eq_false_iff_not]; omega
        clear hf9 hc0
        have HQ' := Lib.hid hQ
        clear hQ HQ
        by_cases h9 : 8 < i
        · have hi9' : ((i : Int) == 9) = true := by rw [beq_iff_eq]; omega
          go_wp2
          go_quiet (fail)
          go_wp2
          go_quiet (fail)
          go_wp2
          go_ret
          refine .inr ?_
          rw [HQ'.out]
          exact ⟨by simp, rfl, a, (HD.out.drew _).code 20⟩
        · have hi9' : ((i : Int) == 9) = false := by rw [beq_eq_false_iff_ne]; omega
          go_wp2
          go_quiet (fail)
          go_wp2
          go_quiet (fail)
          go_wp2
          go_ret
          refine .inr ?_
          rw [HQ'.out]
          exact ⟨by simp, rfl, a, (HD.out.drew _).code 20⟩
      by_cases hb2 : f = 0 ∧ 1 < c.toNat
      · rw [if_pos (.inr hb2)] at hQ
        obtain ⟨hf0, hc1⟩ := hb2
        have hc0' : ((c.toNat : Int) == 0) = false := by rw [beq_eq_false_iff_ne]; omega
        obtain rfl : i = 9 := by omega
        clear hb1
        have HQ' := Lib.hid hQ
        clear hQ HQ
        go_wp2
        go_quiet (fail)
        go_wp2
        go_quiet (fail)
        go_wp2
        go_ret
        refine .inr ?_
        rw [HQ'.out]
        exact ⟨by simp, rfl, a, (HD.out.drew _).code 20⟩

      rw [if_neg (by intro h; exact h.elim hb1 hb2)] at hQ

      by_cases h128 : c.toNat < 128
      · rw [if_pos h128] at hQ
        by_cases hi0 : i < 1
        · by_cases hcz : c.toNat = 0
          · have hmul : c.toNat * 128 ^ i < 18446744073709551616 := mul_bound _ i (by omega) (by omega)
            have hi9' : ((i : Int) == 9) = false := by rw [beq_eq_false_iff_ne]; omega
            have hc0' : ((c.toNat : Int) == 0) = true := by rw [beq_iff_eq]; omega
            clear hcz
            have hsh := wrap7 c.toNat i hmul
            have hmod : c.toNat % 128 = c.toNat := Nat.mod_eq_of_lt h128
            have hand := and127 c
            rw [hmod] at hand
            have hq := or_add acc c.toNat i HA.out
            have hor := bits_or_u64 acc (c.toNat * 128 ^ i) haccb hmul
            rw [hq] at hor
            have HQ' := Lib.hid hQ
            clear hQ hmod hq HQ hmul hb1 hb2
            generalize hG : c.toNat * 128 ^ i = q at *
            clear hG
            go_wp2
            go_quiet (fail)
            go_wp2
            go_quiet (fail)
            go_wp2
            go_ret
            refine .inl ?_
            rw [HQ'.out]
            exact ⟨rfl, rfl, (HD.out.drew _).step (a + 1)⟩
          · have hmul : c.toNat * 128 ^ i < 18446744073709551616 := mul_bound _ i (by omega) (by omega)
            have hi9' : ((i : Int) == 9) = false := by rw [beq_eq_false_iff_ne]; omega
            have hc0' : ((c.toNat : Int) == 0) = false := by rw [beq_eq_false_iff_ne]; omega
            clear hcz
            have hsh := wrap7 c.toNat i hmul
            have hmod : c.toNat % 128 = c.toNat := Nat.mod_eq_of_lt h128
            have hand := and127 c
            rw [hmod] at hand
            have hq := or_add acc c.toNat i HA.out
            have hor := bits_or_u64 acc (c.toNat * 128 ^ i) haccb hmul
            rw [hq] at hor
            have HQ' := Lib.hid hQ
            clear hQ hmod hq HQ hmul hb1 hb2
            generalize hG : c.toNat * 128 ^ i = q at *
            clear hG
            go_wp2
            go_quiet (fail)
            go_wp2
            go_quiet (fail)
            go_wp2
            go_ret
            refine .inl ?_
            rw [HQ'.out]
            exact ⟨rfl, rfl, (HD.out.drew _).step (a + 1)⟩
        · by_cases hi9 : 8 < i
          · have hcle : c.toNat ≤ 1 := by omega
            have hcn : ¬ 1 < c.toNat := by omega
            have hmul : c.toNat * 128 ^ i < 18446744073709551616 := by
              have h1 : c.toNat * 128 ^ i ≤ 1 * 128 ^ i := Nat.mul_le_mul_right _ hcle
              have h2 : 128 ^ i ≤ 128 ^ 9 := Nat.pow_le_pow_right (by decide) (by omega)
              exact Nat.lt_of_le_of_lt (Nat.le_trans h1 (by omega)) (show 128 ^ 9 < 18446744073709551616 by decide)
            have hi9' : ((i : Int) == 9) = true := by rw [beq_iff_eq]; omega
            have hc0' : ((c.toNat : Int) == 0) = false := by rw [beq_eq_false_iff_ne]; omega
            have hsh := wrap7 c.toNat i hmul
            have hmod : c.toNat % 128 = c.toNat := Nat.mod_eq_of_lt h128
            have hand := and127 c
            rw [hmod] at hand
            have hq := or_add acc c.toNat i HA.out
            have hor := bits_or_u64 acc (c.toNat * 128 ^ i) haccb hmul
            rw [hq] at hor
            have HQ' := Lib.hid hQ
            clear hQ hmod hq HQ hmul hb1 hb2
            generalize hG : c.toNat * 128 ^ i = q at *
            clear hG
            go_wp2
            go_quiet (fail)
            go_wp2
            go_quiet (fail)
            go_wp2
            go_ret
            refine .inl ?_
            rw [HQ'.out]
            exact ⟨rfl, rfl, (HD.out.drew _).step (a + 1)⟩
          · have hmul : c.toNat * 128 ^ i < 18446744073709551616 := mul_bound _ i (by omega) (by omega)
            have hi9' : ((i : Int) == 9) = false := by rw [beq_eq_false_iff_ne]; omega
            have hc0' : ((c.toNat : Int) == 0) = false := by rw [beq_eq_false_iff_ne]; omega
            have hsh := wrap7 c.toNat i hmul
            have hmod : c.toNat % 128 = c.toNat := Nat.mod_eq_of_lt h128
            have hand := and127 c
            rw [hmod] at hand
            have hq := or_add acc c.toNat i HA.out
            have hor := bits_or_u64 acc (c.toNat * 128 ^ i) haccb hmul
            rw [hq] at hor
            have HQ' := Lib.hid hQ
            clear hQ hmod hq HQ hmul hb1 hb2
            generalize hG : c.toNat * 128 ^ i = q at *
            clear hG
            go_wp2
            go_quiet (fail)
            go_wp2
            go_quiet (fail)
            go_wp2
            go_ret
            refine .inl ?_
            rw [HQ'.out]
            exact ⟨rfl, rfl, (HD.out.drew _).step (a + 1)⟩
      · rw [if_neg h128] at hQ
        by_cases hi0 : i < 1
        · have hi9' : ((i : Int) == 9) = false := by rw [beq_eq_false_iff_ne]; omega
          have hc0' : ((c.toNat : Int) == 0) = false := by rw [beq_eq_false_iff_ne]; omega
          have hmul : (c.toNat - 128) * 128 ^ i < 18446744073709551616 := mul_bound (c.toNat - 128) i (by omega) (by omega)
          have hsh := wrap7 (c.toNat - 128) i hmul
          have hmod : c.toNat % 128 = c.toNat - 128 := by omega
          have hand := and127 c
          rw [hmod] at hand
          have hq := or_add acc (c.toNat - 128) i HA.out
          have hor := bits_or_u64 acc ((c.toNat - 128) * 128 ^ i) haccb hmul
          rw [hq] at hor
          have HQ' := Lib.hid hQ
          have HA' : Hid (acc + (c.toNat - 128) * 128 ^ i < 128 ^ (i + 1)) := by
            show _ < _
            have h1 := HA.out
            have h2 : (c.toNat - 128) * 128 ^ i ≤ 127 * 128 ^ i := Nat.mul_le_mul_right _ (by omega)
            rw [Nat.pow_succ]; omega
          have hc7 : c.toNat - 128 < 128 := by omega
          clear hQ hmod hq HQ hmul hb1 hb2
          generalize hG : (c.toNat - 128) * 128 ^ i = q at *
          clear hG
          generalize hG : c.toNat - 128 = c7 at *
          clear hG
          go_wp2
          go_quiet (fail)
          go_wp2
          go_quiet (fail)
          go_wp2
          go_roundw
          case rel => exact ⟨i + 1, f - 1, a + 1, acc + q, by omega, by go_num, by go_num, HA', by show R = _; rw [show f - 1 + 1 = f by omega]; exact HQ'.out, (HD.out.drew _).step (a + 1)⟩
          case measure => simp [intOf]; omega
        · have hip : 0 < i := by omega
          have hi8 : i < 9 := by omega
          have hi9' : ((i : Int) == 9) = false := by rw [beq_eq_false_iff_ne]; omega
          have hc0' : ((c.toNat : Int) == 0) = false := by rw [beq_eq_false_iff_ne]; omega
          have hmul : (c.toNat - 128) * 128 ^ i < 18446744073709551616 := mul_bound (c.toNat - 128) i (by omega) (by omega)
          have hsh := wrap7 (c.toNat - 128) i hmul
          have hmod : c.toNat % 128 = c.toNat - 128 := by omega
          have hand := and127 c
          rw [hmod] at hand
          have hq := or_add acc (c.toNat - 128) i HA.out
          have hor := bits_or_u64 acc ((c.toNat - 128) * 128 ^ i) haccb hmul
          rw [hq] at hor
          have HQ' := Lib.hid hQ
          have HA' : Hid (acc + (c.toNat - 128) * 128 ^ i < 128 ^ (i + 1)) := by
            show _ < _
            have h1 := HA.out
            have h2 : (c.toNat - 128) * 128 ^ i ≤ 127 * 128 ^ i := Nat.mul_le_mul_right _ (by omega)
            rw [Nat.pow_succ]; omega
          have hc7 : c.toNat - 128 < 128 := by omega
          clear hQ hmod hq HQ hmul hb1 hb2
          generalize hG : (c.toNat - 128) * 128 ^ i = q at *
          clear hG
          generalize hG : c.toNat - 128 = c7 at *
          clear hG
          go_wp2
          go_quiet (fail)
          go_wp2
          go_quiet (fail)
          go_wp2
          go_roundw
          case rel => exact ⟨i + 1, f - 1, a + 1, acc + q, by omega, by go_num, by go_num, HA', by show R = _; rw [show f - 1 + 1 = f by omega]; exact HQ'.out, (HD.out.drew _).step (a + 1)⟩
          case measure => simp [intOf]; omega

end Go.Proofs.YtgnpjenpehfjbaaDoor

namespace Go.Proofs.YtgnpjenpehfjbaaDoor
open Go.RowKit

abbrev RFPost (rb : Nat) (vb : Value) (w : World) (T : Fld × Nat × Nat) (v z : Value) (x : Ending) (w' : World) : Prop :=
  (T.2.2 = 0 ∧ x = .returned v ∧ Rx rb (refO vb T.2.1 0) w w') ∨ (T.2.2 ≠ 0 ∧ x = .returned z ∧ ∃ a, Rx rb (refO vb a T.2.2) w w')

set_option maxRecDepth 100000 in
set_option maxHeartbeats 1000000 in
theorem ref_Whole (rb : Nat) (vb : Value) (l : List UInt8) (a : Nat) (w : World) (hc : w.heap[rb]? = some (refO vb a 0)) (hb : Bts w rb vb l) :
    Calls Tryd.prog 71 #[.pointer (some ⟨rb, 0, none⟩)] w fun x w' => RFPost rb vb w (fieldR l 1 a) (.int .i64 (fieldR l 1 a).1.num) (.int .i64 0) x w' := by
  have hT : fieldR l 1 a = if (numR l 10 a 0).2.2 ≠ 0 then (⟨1, 0, [], false⟩, a, (numR l 10 a 0).2.2) else if 9223372036854775807 < (numR l 10 a 0).1 then (⟨1, 0, [], false⟩, a, 20) else (⟨1, (numR l 10 a 0).1, [], false⟩, (numR l 10 a 0).2.1, 0) := by
    unfold fieldR; rw [if_pos rfl]
  have c1 := ref_Num rb vb l a w hc hb
  have hlt := numR_lt l 9 a 0 (by decide) (by decide)
  generalize fieldR l 1 a = T at *
  have HT := Lib.hid hT
  clear hT
  generalize numR l 10 a 0 = R at *
  obtain ⟨x, a', e⟩ := R
  simp only at hlt
  clear hc hb
  go_enter Tryd.func71, Tryd.ntmps71
  go_wp2_with fail
  refine c1.mono ?_
  rintro en w1 hp
  rcases hp with ⟨he, hx, hD⟩ | ⟨he, hx, b, hD⟩
  · simp only at he hx hD
    subst he hx
    have h2 : w1.cell? ⟨rb, 2, none⟩ = some (.int .i64 0) := cell_of_row w1 rb 2 _ _ _ hD.cur
    have hf2 : w1.frozen? ⟨rb, 2, none⟩ = false := frozen_of_row w1 rb 2 _ _ hD.cur
    have HD := Lib.hid hD
    clear c1 hD
    by_cases hbig : 9223372036854775807 < x
    · have hT2 : Hid (T = (⟨1, 0, [], false⟩, a, 20)) := by show T = _; rw [HT.out, if_neg (by simp), if_pos hbig]
      clear HT
      go_wp2
      go_ret
      refine .inr ?_
      rw [hT2.out]
      exact ⟨by simp, rfl, a', HD.out.code 20⟩
    · have hT2 : Hid (T = (⟨1, x, [], false⟩, a', 0)) := by show T = _; rw [HT.out, if_neg (by simp), if_neg hbig]
      clear HT
      go_wp2
      go_ret
      refine .inl ?_
      rw [hT2.out]
      exact ⟨rfl, rfl, HD.out⟩
  · simp only at he hx hD
    subst hx
    have h2 : w1.cell? ⟨rb, 2, none⟩ = some (.int .i64 (e : Int)) := cell_of_row w1 rb 2 _ _ _ hD.cur
    have hT2 : Hid (T = (⟨1, 0, [], false⟩, a, e)) := by show T = _; rw [HT.out, if_pos he]
    have he0 : ((e : Int) == 0) = false := by rw [beq_eq_false_iff_ne]; omega
    have he1 : ((e : Int) != 0) = true := by rw [bne_iff_ne]; omega
    have HD := Lib.hid hD
    have HE := Lib.hid he
    clear c1 hD HT he
    go_wp2
    go_ret
    refine .inr ?_
    rw [hT2.out]
    exact ⟨HE.out, rfl, b, HD.out⟩

set_option maxRecDepth 100000 in
set_option maxHeartbeats 1000000 in
theorem ref_Int (rb : Nat) (vb : Value) (l : List UInt8) (a : Nat) (w : World) (hc : w.heap[rb]? = some (refO vb a 0)) (hb : Bts w rb vb l) :
    Calls Tryd.prog 82 #[.pointer (some ⟨rb, 0, none⟩)] w fun x w' => RFPost rb vb w (fieldR l 2 a) (.int .i64 (fieldR l 2 a).1.num) (.int .i64 0) x w' := by
  have hT : fieldR l 2 a = if (numR l 10 a 0).2.2 ≠ 0 then (⟨2, 0, [], false⟩, a, (numR l 10 a 0).2.2) else (⟨2, unzig (numR l 10 a 0).1, [], false⟩, (numR l 10 a 0).2.1, 0) := by
    unfold fieldR; rw [if_neg (by decide), if_pos rfl]
  have c1 := ref_Num rb vb l a w hc hb
  have hlt := numR_lt l 9 a 0 (by decide) (by decide)
  generalize fieldR l 2 a = T at *
  have HT := Lib.hid hT
  clear hT
  generalize numR l 10 a 0 = R at *
  obtain ⟨x, a', e⟩ := R
  simp only at hlt
  clear hc hb
  go_enter Tryd.func82, Tryd.ntmps82
  go_wp2_with fail
  refine c1.mono ?_
  rintro en w1 hp
  rcases hp with ⟨he, hx, hD⟩ | ⟨he, hx, b, hD⟩
  · simp only at he hx hD
    subst he hx
    have HD := Lib.hid hD
    have hT2 : Hid (T = (⟨2, unzig x, [], false⟩, a', 0)) := by show T = _; rw [HT.out, if_neg (by simp)]
    clear c1 hD HT
    by_cases hev : x % 2 = 0
    · have hz : Hid (unzig x = (x : Int) / 2) := by show unzig x = _; unfold unzig; rw [if_pos hev]; omega
      have hev' : (((x : Int) % 2) == 0) = true := by rw [beq_iff_eq]; omega
      clear hev
      go_wp2
      go_ret
      refine .inl ?_
      rw [hT2.out]
      refine ⟨rfl, ?_, HD.out⟩
      rw [hz.out]
      rfl
    · have hz : Hid (unzig x = -((x : Int) / 2) - 1) := by show unzig x = _; unfold unzig; rw [if_neg hev]; omega
      have hev' : (((x : Int) % 2) == 0) = false := by rw [beq_eq_false_iff_ne]; omega
      clear hev
      go_wp2
      go_ret
      refine .inl ?_
      rw [hT2.out]
      refine ⟨rfl, ?_, HD.out⟩
      rw [hz.out]
      rfl
  · simp only at he hx hD
    subst hx
    have hT2 : Hid (T = (⟨2, 0, [], false⟩, a, e)) := by show T = _; rw [HT.out, if_pos he]
    have HD := Lib.hid hD
    have HE := Lib.hid he
    clear c1 hD HT he
    go_wp2
    go_ret
    refine .inr ?_
    rw [hT2.out]
    exact ⟨HE.out, rfl, b, HD.out⟩

set_option maxRecDepth 100000 in
set_option maxHeartbeats 1000000 in
theorem ref_Truth (rb : Nat) (vb : Value) (l : List UInt8) (a : Nat) (w : World) (hc : w.heap[rb]? = some (refO vb a 0)) (hb : Bts w rb vb l) :
    Calls Tryd.prog 81 #[.pointer (some ⟨rb, 0, none⟩)] w fun x w' => RFPost rb vb w (fieldR l 4 a) (.bool (fieldR l 4 a).1.is_) (.bool false) x w' := by
  have hT : fieldR l 4 a = if l.length ≤ a then (⟨4, 0, [], false⟩, a, 21) else if 1 < (l.getD a 0).toNat then (⟨4, 0, [], false⟩, a, 20) else (⟨4, 0, [], (l.getD a 0).toNat == 1⟩, a + 1, 0) := by
    unfold fieldR; rw [if_neg (by decide), if_neg (by decide), if_neg (by decide), if_pos rfl]
  generalize fieldR l 4 a = T at *
  have HC := Lib.hid (Rx.refl hc)
  obtain ⟨ao, cap, rfl, hcap, hml, _, hx⟩ := id hb
  have hnl := hb.len
  have h0 : w.cell? ⟨rb, 0, none⟩ = some (.slice ao l.length cap) := cell_of_row w rb 0 _ _ _ hc
  have h1 : w.cell? ⟨rb, 1, none⟩ = some (.int .i64 (a : Int)) := cell_of_row w rb 1 _ _ _ hc
  have h2 : w.cell? ⟨rb, 2, none⟩ = some (.int .i64 0) := cell_of_row w rb 2 _ _ _ hc
  have hf1 : w.frozen? ⟨rb, 1, none⟩ = false := frozen_of_row w rb 1 _ _ hc
  have hf2 : w.frozen? ⟨rb, 2, none⟩ = false := frozen_of_row w rb 2 _ _ hc
  by_cases hat : l.length ≤ a
  · rw [if_pos hat] at hT
    have HT := Lib.hid hT
    clear hT hc hb hx
    generalize l.length = n at *
    go_enter Tryd.func81, Tryd.ntmps81
    go_wp2
    go_quiet (fail)
    go_wp2
    go_ret
    refine .inr ?_
    rw [HT.out]
    exact ⟨by simp, rfl, a, (HC.out.drew _).code 21⟩
  · rw [if_neg hat] at hT
    have hlt : a < l.length := by omega
    obtain ⟨b, off, rfl, hbrb, hcell⟩ := hx (fun h => by subst h; simp at hlt)
    have hca := hcell a hlt
    have hne : b ≠ rb := by omega
    clear hcell hx hat hb hc
    generalize l.getD a 0 = c at *
    generalize l.length = n at *
    by_cases hbig : 1 < c.toNat
    · rw [if_pos hbig] at hT
      have HT := Lib.hid hT
      clear hT
      go_enter Tryd.func81, Tryd.ntmps81
      go_wp2
      go_quiet (fail)
      go_wp2
      go_quiet (fail)
      go_wp2
      go_ret
      refine .inr ?_
      rw [HT.out]
      exact ⟨by simp, rfl, a, (HC.out.drew _).code 20⟩
    · rw [if_neg hbig] at hT
      have HT := Lib.hid hT
      have hbe : ((c.toNat : Int) == 1) = (c.toNat == 1) := by rw [Bool.eq_iff_iff, beq_iff_eq, beq_iff_eq]; omega
      clear hT
      generalize (c.toNat == 1) = bb at *
      go_enter Tryd.func81, Tryd.ntmps81
      go_wp2
      go_quiet (fail)
      go_wp2
      go_quiet (fail)
      go_wp2
      go_ret
      refine .inl ?_
      rw [HT.out]
      exact ⟨rfl, rfl, (HC.out.drew _).step (a + 1)⟩

set_option maxRecDepth 100000 in
set_option maxHeartbeats 1000000 in
theorem ref_Str (rb : Nat) (vb : Value) (l : List UInt8) (a : Nat) (w : World) (hc : w.heap[rb]? = some (refO vb a 0)) (hb : Bts w rb vb l) (hat : a ≤ l.length) (hl : l.length ≤ 1000000000000) :
    Calls Tryd.prog 80 #[.pointer (some ⟨rb, 0, none⟩)] w fun x w' => RFPost rb vb w (fieldR l 3 a) (.string ⟨(fieldR l 3 a).1.text.toArray⟩) (.string ⟨#[]⟩) x w' := by
  have c1 := ref_Num rb vb l a w hc hb
  have hle := numR_le l 10 a 0 hat
  have hlt := numR_lt l 9 a 0 (by decide) (by decide)
  have hT : fieldR l 3 a = if (numR l 10 a 0).2.2 ≠ 0 then (⟨3, 0, [], false⟩, a, (numR l 10 a 0).2.2)
    else if l.length - (numR l 10 a 0).2.1 < (numR l 10 a 0).1 then (⟨3, 0, [], false⟩, a, 21)
    else (⟨3, 0, (l.take ((numR l 10 a 0).2.1 + (numR l 10 a 0).1)).drop (numR l 10 a 0).2.1, false⟩, (numR l 10 a 0).2.1 + (numR l 10 a 0).1, 0) := by
    unfold fieldR textR
    rw [if_neg (by decide), if_neg (by decide), if_pos rfl]
    by_cases h1 : (numR l 10 a 0).2.2 ≠ 0
    · rw [if_pos h1, if_pos h1, if_pos h1]
    · rw [if_neg h1, if_neg h1]
      by_cases h2 : l.length - (numR l 10 a 0).2.1 < (numR l 10 a 0).1
      · rw [if_pos h2, if_pos h2, if_pos (by simp)]
      · rw [if_neg h2, if_neg h2, if_neg (by simp)]
  generalize fieldR l 3 a = T at *
  have HT := Lib.hid hT
  clear hT
  generalize numR l 10 a 0 = R at *
  obtain ⟨x, a', e⟩ := R
  simp only at hle hlt
  have HBB := Lib.hid hb
  obtain ⟨ao, cap, hv, hcap, _⟩ := id hb
  clear hb hc
  go_enter Tryd.func80, Tryd.ntmps80
  go_wp2_with fail
  refine c1.mono ?_
  rintro en w1 hp
  rcases hp with ⟨he, hx, hD⟩ | ⟨he, hx, b, hD⟩
  · simp only at he hx hD
    subst he hx
    have h0 : w1.cell? ⟨rb, 0, none⟩ = some vb := cell_of_row w1 rb 0 _ _ _ hD.cur
    have h1 : w1.cell? ⟨rb, 1, none⟩ = some (.int .i64 (a' : Int)) := cell_of_row w1 rb 1 _ _ _ hD.cur
    have h2 : w1.cell? ⟨rb, 2, none⟩ = some (.int .i64 0) := cell_of_row w1 rb 2 _ _ _ hD.cur
    have hf : w1.frozen? ⟨rb, 1, none⟩ = false := frozen_of_row w1 rb 1 _ _ hD.cur
    have hf2 : w1.frozen? ⟨rb, 2, none⟩ = false := frozen_of_row w1 rb 2 _ _ hD.cur
    have hb1 := hD.bts HBB.out
    by_cases hbig : l.length - a' < x
    · have hT2 : Hid (T = (⟨3, 0, [], false⟩, a, 21)) := by show T = _; rw [HT.out, if_neg (by simp), if_pos hbig]
      have HD := Lib.hid hD
      clear HT hD c1 HBB hb1 hf
      generalize l.length = n at *
      subst hv
      go_wp2
      go_quiet (fail)
      go_wp2
      go_ret
      refine .inr ?_
      rw [hT2.out]
      exact ⟨by simp, rfl, a', (HD.out.drew _).code 21⟩
    · obtain ⟨v1, hb2, hr1⟩ := hb1.cutB a' (a' + x) (by omega) (by omega)
      have hT2 : Hid (T = (⟨3, 0, (l.take (a' + x)).drop a', false⟩, a' + x, 0)) := by show T = _; rw [HT.out, if_neg (by simp), if_neg hbig]
      have HD := Lib.hid hD
      have hs : ∀ n, (convert 27 9 v1).run Tryd.prog (w1.drewN n) = .ok (.string ⟨((l.take (a' + x)).drop a').toArray⟩) (w1.drewN n) := fun n =>
        (hb2.below ((Rx.refl hD.cur).drew n).below (Nat.le_refl _)).strB
      have hcast : (((a' + x : Nat)) : Int) = (a' : Int) + (x : Int) := by omega
      rw [hcast] at hr1
      clear HT hD c1 HBB hb1 hcast
      generalize (l.take (a' + x)).drop a' = tx at *
      generalize l.length = n at *
      subst hv
      go_wp2
      go_quiet (fail)
      go_wp2
      go_quiet (fail)
      go_wp2
      go_ret
      refine .inl ?_
      rw [hT2.out]
      exact ⟨rfl, rfl, (HD.out.drew _).step (a' + x)⟩
  · simp only at he hx hD
    subst hx
    have h0 : w1.cell? ⟨rb, 0, none⟩ = some vb := cell_of_row w1 rb 0 _ _ _ hD.cur
    have h1 : w1.cell? ⟨rb, 1, none⟩ = some (.int .i64 (b : Int)) := cell_of_row w1 rb 1 _ _ _ hD.cur
    have h2 : w1.cell? ⟨rb, 2, none⟩ = some (.int .i64 (e : Int)) := cell_of_row w1 rb 2 _ _ _ hD.cur
    have hT2 : Hid (T = (⟨3, 0, [], false⟩, a, e)) := by show T = _; rw [HT.out, if_pos he]
    have he0 : ((e : Int) == 0) = false := by rw [beq_eq_false_iff_ne]; omega
    have he1 : ((e : Int) != 0) = true := by rw [bne_iff_ne]; omega
    have HD := Lib.hid hD
    have HE := Lib.hid he
    clear c1 hD HT he
    go_wp2
    go_quiet (fail)
    go_wp2
    go_ret
    refine .inr ?_
    rw [hT2.out]
    exact ⟨HE.out, rfl, b, HD.out.drew _⟩

end Go.Proofs.YtgnpjenpehfjbaaDoor

namespace Go.Proofs.YtgnpjenpehfjbaaDoor
open Go.RowKit

def rightB (f : Fld) : Bool :=
  if f.kind = 1 then decide (0 ≤ f.num) && f.text.isEmpty && !f.is_
  else if f.kind = 2 then f.text.isEmpty && !f.is_
  else if f.kind = 3 then f.num == 0 && !f.is_
  else if f.kind = 4 then f.num == 0 && f.text.isEmpty
  else false


set_option maxRecDepth 100000 in
set_option maxHeartbeats 4000000 in
theorem code_right (f : Fld) (w : World) : Calls Tryd.prog 50 #[f.val] w fun e w' => e = .returned (.bool (rightB f)) ∧ Below w.heap.size w w' := by
  obtain ⟨k, num, t, b⟩ := f
  unfold Fld.val
  simp only
  by_cases h1 : k = 1
  · subst h1
    by_cases hn : num < 0
    · have hr : rightB ⟨1, num, t, b⟩ = false := by simp [rightB]; omega
      have HR := Lib.hid hr
      clear hr
      go_enter Tryd.func50, Tryd.ntmps50
      go_wp2
      go_ret
      rw [HR.out]
      exact ⟨rfl, ((Below.refl _ _).alloc (Nat.le_refl _) _).alloc (by simp) _⟩
    · cases t with
      | nil =>
        cases b
        · have hr : rightB ⟨1, num, [], false⟩ = true := by simp [rightB]; omega
          have HR := Lib.hid hr
          clear hr
          go_enter Tryd.func50, Tryd.ntmps50
          go_wp2
          go_ret
          rw [HR.out]
          exact ⟨rfl, ((Below.refl _ _).alloc (Nat.le_refl _) _).alloc (by simp) _⟩
        · have hr : rightB ⟨1, num, [], true⟩ = false := by simp [rightB]
          have HR := Lib.hid hr
          clear hr
          go_enter Tryd.func50, Tryd.ntmps50
          go_wp2
          go_ret
          rw [HR.out]
          exact ⟨rfl, ((Below.refl _ _).alloc (Nat.le_refl _) _).alloc (by simp) _⟩
      | cons c r =>
        have hr : rightB ⟨1, num, (c :: r), b⟩ = false := by simp [rightB]
        have HR := Lib.hid hr
        clear hr
        go_enter Tryd.func50, Tryd.ntmps50
        go_wp2
        go_ret
        rw [HR.out]
        exact ⟨rfl, ((Below.refl _ _).alloc (Nat.le_refl _) _).alloc (by simp) _⟩
  by_cases h2 : k = 2
  · subst h2
    clear h1
    cases t with
    | nil =>
      cases b
      · have hr : rightB ⟨2, num, [], false⟩ = true := by simp [rightB]
        have HR := Lib.hid hr
        clear hr
        go_enter Tryd.func50, Tryd.ntmps50
        go_wp2
        go_ret
        rw [HR.out]
        exact ⟨rfl, ((Below.refl _ _).alloc (Nat.le_refl _) _).alloc (by simp) _⟩
      · have hr : rightB ⟨2, num, [], true⟩ = false := by simp [rightB]
        have HR := Lib.hid hr
        clear hr
        go_enter Tryd.func50, Tryd.ntmps50
        go_wp2
        go_ret
        rw [HR.out]
        exact ⟨rfl, ((Below.refl _ _).alloc (Nat.le_refl _) _).alloc (by simp) _⟩
    | cons c r =>
      have hr : rightB ⟨2, num, (c :: r), b⟩ = false := by simp [rightB]
      have HR := Lib.hid hr
      clear hr
      go_enter Tryd.func50, Tryd.ntmps50
      go_wp2
      go_ret
      rw [HR.out]
      exact ⟨rfl, ((Below.refl _ _).alloc (Nat.le_refl _) _).alloc (by simp) _⟩
  by_cases h3 : k = 3
  · subst h3
    clear h1 h2
    by_cases hn : num = 0
    · subst hn
      cases b
      · have hr : rightB ⟨3, 0, t, false⟩ = true := by simp [rightB]
        have HR := Lib.hid hr
        clear hr
        go_enter Tryd.func50, Tryd.ntmps50
        go_wp2
        go_ret
        rw [HR.out]
        exact ⟨rfl, ((Below.refl _ _).alloc (Nat.le_refl _) _).alloc (by simp) _⟩
      · have hr : rightB ⟨3, 0, t, true⟩ = false := by simp [rightB]
        have HR := Lib.hid hr
        clear hr
        go_enter Tryd.func50, Tryd.ntmps50
        go_wp2
        go_ret
        rw [HR.out]
        exact ⟨rfl, ((Below.refl _ _).alloc (Nat.le_refl _) _).alloc (by simp) _⟩
    · have hr : rightB ⟨3, num, t, b⟩ = false := by simp [rightB] ; intro h; exact absurd h hn
      have HR := Lib.hid hr
      clear hr
      have e1 : (num == 0) = false := by simpa using hn
      have e2 : ((0 : Int) == num) = false := by simpa using (fun h => hn h.symm)
      clear hn
      go_enter Tryd.func50, Tryd.ntmps50
      go_wp2
      go_ret
      rw [HR.out]
      exact ⟨rfl, ((Below.refl _ _).alloc (Nat.le_refl _) _).alloc (by simp) _⟩
  by_cases h4 : k = 4
  · subst h4
    clear h1 h2 h3
    by_cases hn : num = 0
    · subst hn
      cases t with
      | nil =>
        have hr : rightB ⟨4, 0, [], b⟩ = true := by simp [rightB]
        have HR := Lib.hid hr
        clear hr
        go_enter Tryd.func50, Tryd.ntmps50
        go_wp2
        go_ret
        rw [HR.out]
        exact ⟨rfl, ((Below.refl _ _).alloc (Nat.le_refl _) _).alloc (by simp) _⟩
      | cons c r =>
        have hr : rightB ⟨4, 0, (c :: r), b⟩ = false := by simp [rightB]
        have HR := Lib.hid hr
        clear hr
        go_enter Tryd.func50, Tryd.ntmps50
        go_wp2
        go_ret
        rw [HR.out]
        exact ⟨rfl, ((Below.refl _ _).alloc (Nat.le_refl _) _).alloc (by simp) _⟩
    · have hr : rightB ⟨4, num, t, b⟩ = false := by simp [rightB] ; intro h; exact absurd h hn
      have HR := Lib.hid hr
      clear hr
      have e1 : (num == 0) = false := by simpa using hn
      have e2 : ((0 : Int) == num) = false := by simpa using (fun h => hn h.symm)
      clear hn
      go_enter Tryd.func50, Tryd.ntmps50
      go_wp2
      go_ret
      rw [HR.out]
      exact ⟨rfl, ((Below.refl _ _).alloc (Nat.le_refl _) _).alloc (by simp) _⟩
  have hr : rightB ⟨k, num, t, b⟩ = false := by simp [rightB, h1, h2, h3, h4]
  have HR := Lib.hid hr
  have e1 : (k == 1) = false := by simpa using h1
  have e2 : (k == 2) = false := by simpa using h2
  have e3 : (k == 3) = false := by simpa using h3
  have e4 : (k == 4) = false := by simpa using h4
  clear hr h1 h2 h3 h4
  go_enter Tryd.func50, Tryd.ntmps50
  go_wp2
  go_ret
  rw [HR.out]
  exact ⟨rfl, ((Below.refl _ _).alloc (Nat.le_refl _) _).alloc (by simp) _⟩

end Go.Proofs.YtgnpjenpehfjbaaDoor

namespace Go.Proofs.YtgnpjenpehfjbaaDoor
open Go.RowKit

/-- a slice that reads as fields, all of it below block B -/
def Flds (w : World) (B : Nat) (v : Value) (fs : List Fld) : Prop :=
  ∃ ao cap, v = .slice ao fs.length cap ∧ fs.length ≤ cap ∧ fs.length ≤ maxLen ∧ (fs ≠ [] → ∃ b off, ao = some ⟨b, off, none⟩ ∧ b < B ∧ ∀ i f, fs[i]? = some f →
    w.cell? ⟨b, off + i * 4, none⟩ = some (.int .i64 f.kind) ∧ w.cell? ⟨b, off + i * 4 + 1, none⟩ = some (.int .i64 f.num) ∧ w.cell? ⟨b, off + i * 4 + 2, none⟩ = some (.string ⟨f.text.toArray⟩) ∧ w.cell? ⟨b, off + i * 4 + 3, none⟩ = some (.bool f.is_))
theorem Flds.below {w w' : World} {B B' : Nat} {v : Value} {fs : List Fld} (h : Flds w B v fs) (hb : Below B w w') (hB : B ≤ B') : Flds w' B' v fs := by
  obtain ⟨ao, cap, h1, h2, h3, h4⟩ := h
  refine ⟨ao, cap, h1, h2, h3, fun hne => ?_⟩
  obtain ⟨b, off, h5, h6, h7⟩ := h4 hne
  refine ⟨b, off, h5, by omega, fun i f hf => ?_⟩
  obtain ⟨c0, c1, c2, c3⟩ := h7 i f hf
  exact ⟨(hb.cell h6).trans c0, (hb.cell h6).trans c1, (hb.cell h6).trans c2, (hb.cell h6).trans c3⟩
theorem flat_get (fs : List Fld) (i : Nat) (f : Fld) (h : fs[i]? = some f) (j : Nat) (hj : j < 4) : (fs.flatMap Fld.cells)[i * 4 + j]? = f.cells[j]? := by
  induction fs generalizing i with
  | nil => simp at h
  | cons x r ih =>
    have hx : x.cells.length = 4 := rfl
    cases i with
    | zero =>
      simp at h; subst h
      rw [List.flatMap_cons, List.getElem?_append_left (by omega)]
      congr 1; omega
    | succ i =>
      rw [List.flatMap_cons, List.getElem?_append_right (by omega), hx]
      simp at h
      rw [← ih i h]
      congr 1; omega
theorem OwnF.flds {w : World} {B : Nat} {v : Value} {fs : List Fld} (h : OwnF w B v fs) : Flds w w.heap.size v fs := by
  rcases h.2 with ⟨rfl, h0⟩ | ⟨g, cap, cur, rfl, hb, hg, hn, hcm, hcs, htake⟩
  · have : fs = [] := List.eq_nil_of_length_eq_zero h0
    subst this
    exact ⟨none, 0, rfl, by simp, by simp, fun h => absurd rfl h⟩
  · refine ⟨_, cap, rfl, hn, by omega, fun _ => ⟨g, 0, rfl, (Array.getElem?_eq_some_iff.1 hg).1, fun i f hf => ?_⟩⟩
    have key : ∀ j u, j < 4 → f.cells[j]? = some u → w.cell? ⟨g, 0 + i * 4 + j, none⟩ = some u := by
      intro j u hj hu
      rw [cell_of_row w g _ cur _ _ hg]
      have hi : i < fs.length := (List.getElem?_eq_some_iff.1 hf).1
      have h3 := flat_get fs i f hf j hj
      rw [hu, ← htake, List.getElem?_take] at h3
      rw [if_pos (by omega)] at h3
      simpa using h3
    exact ⟨key 0 _ (by decide) rfl, key 1 _ (by decide) rfl, key 2 _ (by decide) rfl, key 3 _ (by decide) rfl⟩

end Go.Proofs.YtgnpjenpehfjbaaDoor

namespace Go.Proofs
open Go.Shelf
def Tryd.laysM183_ren : Go.Shelf.Ren := ⟨fun | 183 => 56 | n => n, fun | 130 => 130 | 37 => 27 | 0 => 0 | 93 => 90 | 3 => 3 | 5 => 5 | 91 => 88 | n => n, fun | n => n⟩
theorem Tryd.laysM183 : Go.Proofs.LaysM.n183 Tryd.prog Tryd.laysM183_ren := {
  mixed := by kernel_rfl
  f183 := Tryd.func56.trans (congrArg some (by kernel_rfl))
  t0 := Tryd.underlying0
  a0 := Tryd.isAgg0
  z0 := Tryd.sizeOf0
  v0 := Tryd.zeroValue0
  t3 := Tryd.underlying3
  a3 := Tryd.isAgg3
  z3 := Tryd.sizeOf3
  v3 := Tryd.zeroValue3
  t37 := Tryd.underlying27
  a37 := Tryd.isAgg27
  z37 := Tryd.sizeOf27
  v37 := Tryd.zeroValue27
  t93 := Tryd.underlying90
  a93 := Tryd.isAgg90
  z93 := Tryd.sizeOf90
  v93 := Tryd.zeroValue90
  t130 := Tryd.underlying130
  a130 := Tryd.isAgg130
  z130 := Tryd.sizeOf130
  v130 := Tryd.zeroValue130
  t5 := Tryd.underlying5
  a5 := Tryd.isAgg5
  z5 := Tryd.sizeOf5
  v5 := Tryd.zeroValue5
  t91 := Tryd.underlying88
  a91 := Tryd.isAgg88
  z91 := Tryd.sizeOf88
  v91 := Tryd.zeroValue88
  i0 := by kernel_rfl
  i3 := by kernel_rfl
  i5 := by kernel_rfl
  i37 := by kernel_rfl
  i91 := by kernel_rfl
  i93 := by kernel_rfl
  i130 := by kernel_rfl }
open Go.RowKit in
theorem Tryd.Buffer_Bytes (B b : Nat) (bs : List Value) (w : World) (h : Lib.IsBuffer 90 5 B b bs w) :
    Calls Tryd.prog 56 #[.pointer (some ⟨b, 0, none⟩)] w fun e w' => ∃ v, e = .returned v ∧ w'.ownsRow B 5 1 v bs.length bs ∧ ∃ n, w' = w.drewN n := Any.Buffer_Bytes Tryd.laysM183 B b bs w h
def Tryd.laysM178_ren : Go.Shelf.Ren := ⟨fun | 178 => 54 | 251 => 73 | 252 => 74 | 181 => 84 | 184 => 85 | 290 => 86 | 324 => 89 | n => n, fun | 130 => 130 | 9 => 9 | 3 => 3 | 75 => 95 | 0 => 0 | 93 => 90 | 91 => 88 | 131 => 122 | 4 => 4 | 37 => 27 | 20 => 20 | 80 => 139 | 5 => 5 | n => n, fun | 14 => 1 | n => n⟩
theorem Tryd.laysM178 : Go.Proofs.LaysM.n178 Tryd.prog Tryd.laysM178_ren := {
  mixed := by kernel_rfl
  f178 := Tryd.func54.trans (congrArg some (by kernel_rfl))
  f181 := Tryd.func84.trans (congrArg some (by kernel_rfl))
  f184 := Tryd.func85.trans (congrArg some (by kernel_rfl))
  f251 := Tryd.func73.trans (congrArg some (by kernel_rfl))
  f252 := Tryd.func74.trans (congrArg some (by kernel_rfl))
  f290 := Tryd.func86.trans (congrArg some (by kernel_rfl))
  f324 := Tryd.func89.trans (congrArg some (by kernel_rfl))
  t0 := Tryd.underlying0
  a0 := Tryd.isAgg0
  z0 := Tryd.sizeOf0
  v0 := Tryd.zeroValue0
  t3 := Tryd.underlying3
  a3 := Tryd.isAgg3
  z3 := Tryd.sizeOf3
  v3 := Tryd.zeroValue3
  t4 := Tryd.underlying4
  a4 := Tryd.isAgg4
  z4 := Tryd.sizeOf4
  v4 := Tryd.zeroValue4
  t9 := Tryd.underlying9
  a9 := Tryd.isAgg9
  z9 := Tryd.sizeOf9
  v9 := Tryd.zeroValue9
  t20 := Tryd.underlying20
  a20 := Tryd.isAgg20
  z20 := Tryd.sizeOf20
  v20 := Tryd.zeroValue20
  t37 := Tryd.underlying27
  a37 := Tryd.isAgg27
  z37 := Tryd.sizeOf27
  v37 := Tryd.zeroValue27
  t75 := Tryd.underlying95
  a75 := Tryd.isAgg95
  z75 := Tryd.sizeOf95
  v75 := Tryd.zeroValue95
  t91 := Tryd.underlying88
  a91 := Tryd.isAgg88
  z91 := Tryd.sizeOf88
  v91 := Tryd.zeroValue88
  t93 := Tryd.underlying90
  a93 := Tryd.isAgg90
  z93 := Tryd.sizeOf90
  v93 := Tryd.zeroValue90
  t130 := Tryd.underlying130
  a130 := Tryd.isAgg130
  z130 := Tryd.sizeOf130
  v130 := Tryd.zeroValue130
  t131 := Tryd.underlying122
  a131 := Tryd.isAgg122
  z131 := Tryd.sizeOf122
  v131 := Tryd.zeroValue122
  g14 := by kernel_rfl
  t5 := Tryd.underlying5
  a5 := Tryd.isAgg5
  z5 := Tryd.sizeOf5
  v5 := Tryd.zeroValue5
  t80 := Tryd.underlying139
  a80 := Tryd.isAgg139
  z80 := Tryd.sizeOf139
  v80 := Tryd.zeroValue139
  i0 := by kernel_rfl
  i3 := by kernel_rfl
  i4 := by kernel_rfl
  i5 := by kernel_rfl
  i9 := by kernel_rfl
  i20 := by kernel_rfl
  i37 := by kernel_rfl
  i75 := by kernel_rfl
  i80 := by kernel_rfl
  i91 := by kernel_rfl
  i93 := by kernel_rfl
  i130 := by kernel_rfl
  i131 := by kernel_rfl
  m14 := by kernel_rfl }
def Tryd.laysM180_ren : Go.Shelf.Ren := ⟨fun | 180 => 51 | 251 => 73 | 252 => 74 | 181 => 84 | 184 => 85 | 290 => 86 | 324 => 89 | n => n, fun | 130 => 130 | 37 => 27 | 3 => 3 | 75 => 95 | 0 => 0 | 93 => 90 | 91 => 88 | 131 => 122 | 4 => 4 | 20 => 20 | 5 => 5 | 80 => 139 | 9 => 9 | n => n, fun | 14 => 1 | n => n⟩
theorem Tryd.laysM180 : Go.Proofs.LaysM.n180 Tryd.prog Tryd.laysM180_ren := {
  mixed := by kernel_rfl
  f180 := Tryd.func51.trans (congrArg some (by kernel_rfl))
  f181 := Tryd.func84.trans (congrArg some (by kernel_rfl))
  f184 := Tryd.func85.trans (congrArg some (by kernel_rfl))
  f251 := Tryd.func73.trans (congrArg some (by kernel_rfl))
  f252 := Tryd.func74.trans (congrArg some (by kernel_rfl))
  f290 := Tryd.func86.trans (congrArg some (by kernel_rfl))
  f324 := Tryd.func89.trans (congrArg some (by kernel_rfl))
  t0 := Tryd.underlying0
  a0 := Tryd.isAgg0
  z0 := Tryd.sizeOf0
  v0 := Tryd.zeroValue0
  t3 := Tryd.underlying3
  a3 := Tryd.isAgg3
  z3 := Tryd.sizeOf3
  v3 := Tryd.zeroValue3
  t4 := Tryd.underlying4
  a4 := Tryd.isAgg4
  z4 := Tryd.sizeOf4
  v4 := Tryd.zeroValue4
  t20 := Tryd.underlying20
  a20 := Tryd.isAgg20
  z20 := Tryd.sizeOf20
  v20 := Tryd.zeroValue20
  t37 := Tryd.underlying27
  a37 := Tryd.isAgg27
  z37 := Tryd.sizeOf27
  v37 := Tryd.zeroValue27
  t75 := Tryd.underlying95
  a75 := Tryd.isAgg95
  z75 := Tryd.sizeOf95
  v75 := Tryd.zeroValue95
  t91 := Tryd.underlying88
  a91 := Tryd.isAgg88
  z91 := Tryd.sizeOf88
  v91 := Tryd.zeroValue88
  t93 := Tryd.underlying90
  a93 := Tryd.isAgg90
  z93 := Tryd.sizeOf90
  v93 := Tryd.zeroValue90
  t130 := Tryd.underlying130
  a130 := Tryd.isAgg130
  z130 := Tryd.sizeOf130
  v130 := Tryd.zeroValue130
  t131 := Tryd.underlying122
  a131 := Tryd.isAgg122
  z131 := Tryd.sizeOf122
  v131 := Tryd.zeroValue122
  g14 := by kernel_rfl
  t5 := Tryd.underlying5
  a5 := Tryd.isAgg5
  z5 := Tryd.sizeOf5
  v5 := Tryd.zeroValue5
  t9 := Tryd.underlying9
  a9 := Tryd.isAgg9
  z9 := Tryd.sizeOf9
  v9 := Tryd.zeroValue9
  t80 := Tryd.underlying139
  a80 := Tryd.isAgg139
  z80 := Tryd.sizeOf139
  v80 := Tryd.zeroValue139
  i0 := by kernel_rfl
  i3 := by kernel_rfl
  i4 := by kernel_rfl
  i5 := by kernel_rfl
  i9 := by kernel_rfl
  i20 := by kernel_rfl
  i37 := by kernel_rfl
  i75 := by kernel_rfl
  i80 := by kernel_rfl
  i91 := by kernel_rfl
  i93 := by kernel_rfl
  i130 := by kernel_rfl
  i131 := by kernel_rfl
  m14 := by kernel_rfl }
open Go.RowKit in
theorem Tryd.Buffer_WriteString_k (B b : Nat) (bs : List Value) (s : ByteArray) (w : World) (h : Lib.IsBuffer 90 5 B b bs w) (hBw : B ≤ w.heap.size) (h1 : ∀ v ∈ bs, v.oneCell' = true) (hlim : bs.length + s.size ≤ 140737488355328) :
    Calls Tryd.prog 54 #[.pointer (some ⟨b, 0, none⟩), .string s] w fun e w' => e = .returned (.tuple #[.int .i64 s.size, .nilIface]) ∧ Lib.IsBuffer 90 5 B b (bs ++ Lib.byteCells s.data.toList) w' ∧ Below B w w' ∧ Lib.OthersKept 5 (some b) w w' := Any.Buffer_WriteString_k Tryd.laysM178 B b bs s w h hBw h1 hlim
open Go.RowKit in
theorem Tryd.Buffer_Write_any (B b : Nat) (bs cs : List Value) (a : Addr) (n c : Nat) (w : World) (h : Lib.IsBuffer 90 5 B b bs w) (hBw : B ≤ w.heap.size) (h1 : ∀ v ∈ bs, v.oneCell' = true) (hn : cs.length = n) (hab : a.block ≠ b) (hsrc : ∀ j v, cs[j]? = some v → w.cell? (a.add j) = some v) (h1c : ∀ v ∈ cs, v.oneCell' = true) (hlim : bs.length + n ≤ 140737488355328) :
    Calls Tryd.prog 51 #[.pointer (some ⟨b, 0, none⟩), .slice (some a) n c] w fun e w' => e = .returned (.tuple #[.int .i64 n, .nilIface]) ∧ Lib.IsBuffer 90 5 B b (bs ++ cs) w' ∧ Below B w w' ∧ Lib.OthersKept 5 (some b) w w' := Any.Buffer_Write_any Tryd.laysM180 B b bs cs a n c w h hBw h1 hn hab hsrc h1c hlim
end Go.Proofs

namespace Go.Proofs.YtgnpjenpehfjbaaDoor
open Go.RowKit

/-- a field's bytes -/
def fbytes (f : Fld) : List UInt8 :=
  if f.kind = 1 then vint f.num.toNat else if f.kind = 2 then vint (zig f.num) else if f.kind = 3 then vint f.text.length ++ f.text else vint (flagN f.is_)
/-- fields' bytes: none, if one is not as its kind has it -/
def fieldsB (fs : List Fld) : List UInt8 := if fs.all rightB then fs.flatMap fbytes else []
def FldOk (f : Fld) : Prop := -9223372036854775808 ≤ f.num ∧ f.num < 9223372036854775808 ∧ f.text.length ≤ 1000000000

def fpreB (fs : List Fld) (j : Nat) : List UInt8 := (fs.take j).flatMap fbytes
theorem fpreB_succ (fs : List Fld) (j : Nat) (f : Fld) (h : fs[j]? = some f) : fpreB fs (j + 1) = fpreB fs j ++ fbytes f := by
  unfold fpreB
  obtain ⟨hj, rfl⟩ := List.getElem?_eq_some_iff.1 h
  rw [List.take_succ_eq_append_getElem hj, List.flatMap_append]
  simp
theorem fpreB_le (fs : List Fld) (j : Nat) : (fpreB fs j).length ≤ (fs.flatMap fbytes).length := by
  unfold fpreB
  conv => rhs; rw [← List.take_append_drop j fs, List.flatMap_append, List.length_append]
  omega
theorem fpreB_all (fs : List Fld) (j : Nat) (h : fs.length ≤ j) : fpreB fs j = fs.flatMap fbytes := by
  unfold fpreB; rw [List.take_of_length_le h]
theorem fieldsB_bad (fs : List Fld) (j : Nat) (f : Fld) (h : fs[j]? = some f) (hr : rightB f = false) : fieldsB fs = [] := by
  unfold fieldsB
  rw [if_neg]
  intro ha
  have := List.all_eq_true.1 ha f (List.mem_of_getElem? h)
  rw [hr] at this; cases this
theorem fieldsB_all (fs : List Fld) (j : Nat) (h : fs.length ≤ j) (hr : ∀ f ∈ fs.take j, rightB f = true) : fieldsB fs = fpreB fs j := by
  rw [fpreB_all fs j h]
  unfold fieldsB
  rw [if_pos]
  rw [List.take_of_length_le h] at hr
  exact List.all_eq_true.2 hr
theorem take_right (fs : List Fld) (j : Nat) (f : Fld) (h : fs[j]? = some f) (hr : rightB f = true) (ha : ∀ f ∈ fs.take j, rightB f = true) : ∀ f ∈ fs.take (j + 1), rightB f = true := by
  obtain ⟨hj, rfl⟩ := List.getElem?_eq_some_iff.1 h
  rw [List.take_succ_eq_append_getElem hj]
  intro g hg
  rcases List.mem_append.1 hg with hg | hg
  · exact ha g hg
  · simp at hg; subst hg; exact hr
theorem right_kinds {k num : Int} {t : List UInt8} {b : Bool} (h : rightB ⟨k, num, t, b⟩ = true) : (k = 1 ∧ 0 ≤ num) ∨ k = 2 ∨ k = 3 ∨ k = 4 := by
  unfold rightB at h
  simp only at h
  by_cases h1 : k = 1
  · rw [if_pos h1] at h; simp at h; exact .inl ⟨h1, h.1.1⟩
  · by_cases h2 : k = 2
    · exact .inr (.inl h2)
    · by_cases h3 : k = 3
      · exact .inr (.inr (.inl h3))
      · by_cases h4 : k = 4
        · exact .inr (.inr (.inr h4))
        · rw [if_neg h1, if_neg h2, if_neg h3, if_neg h4] at h; cases h

abbrev isBuf (B b : Nat) (l : List UInt8) (w : World) : Prop := Lib.IsBuffer 90 5 B b (l.map byteV) w
theorem isBuf_below {B b : Nat} {l : List UInt8} {w w' : World} (h : isBuf B b l w) (hb : Below w.heap.size w w') : isBuf B b l w' := by
  have hlt := Lib.IsBuffer.lt h
  obtain ⟨hB, v, lr, h1, h2, h3⟩ := h
  refine ⟨hB, v, lr, (hb.block b hlt).trans h1, ?_, h3⟩
  obtain ⟨g1, g2⟩ := h2
  refine ⟨g1, ?_⟩
  rcases g2 with g2 | ⟨g, cap, cur, hv, hBg, hg, r⟩
  · exact .inl g2
  · exact .inr ⟨g, cap, cur, hv, hBg, by rw [hb.block g (Array.getElem?_eq_some_iff.1 hg).1]; exact hg, r⟩

/-- Write at a slice that reads as bytes -/
theorem buf_Write (B b : Nat) (l m : List UInt8) (v : Value) (B' : Nat) (w : World) (h : isBuf B b l w) (hBw : B ≤ w.heap.size) (ho : Own w B' v m) (hB' : b < B') (hm : 0 < m.length) (hlim : l.length + m.length ≤ 140737488355328) :
    Calls Tryd.prog 51 #[.pointer (some ⟨b, 0, none⟩), v] w fun e w' => e = .returned (.tuple #[.int .i64 (m.length : Nat), .nilIface]) ∧ isBuf B b (l ++ m) w' ∧ Below B w w' ∧ Lib.OthersKept 5 (some b) w w' := by
  obtain ⟨h1, h2⟩ := ho
  rcases h2 with ⟨rfl, h0⟩ | ⟨g, cap, cur, rfl, hBg, hg, hn, hcm, hcs, htake⟩
  · omega
  · refine (Tryd.Buffer_Write_any B b (l.map byteV) (m.map byteV) ⟨g, 0, none⟩ m.length cap w h hBw (bytes_oneCell l) (by simp) (by show g ≠ b; omega) ?_ (bytes_oneCell m) (by rw [List.length_map]; exact hlim)).mono ?_
    · intro j u hu
      rw [Addr.add_lit, cell_of_row w g _ cur _ _ hg]
      have hjl : j < m.length := by have := (List.getElem?_eq_some_iff.1 hu).1; simpa using this
      rw [← htake, List.getElem?_take] at hu
      rw [Nat.zero_add]
      exact (by simpa [show j < m.length * 1 by omega] using hu : j < m.length ∧ cur[j]? = some u).2
    · rintro e w' ⟨rfl, h3, h4, h5⟩
      exact ⟨rfl, by unfold isBuf; rw [List.map_append]; exact h3, h4, h5⟩
theorem buf_WriteString (B b : Nat) (l t : List UInt8) (w : World) (h : isBuf B b l w) (hBw : B ≤ w.heap.size) (hlim : l.length + t.length ≤ 140737488355328) :
    Calls Tryd.prog 54 #[.pointer (some ⟨b, 0, none⟩), .string ⟨t.toArray⟩] w fun e w' => e = .returned (.tuple #[.int .i64 (t.length : Nat), .nilIface]) ∧ isBuf B b (l ++ t) w' ∧ Below B w w' := by
  refine (Tryd.Buffer_WriteString_k B b (l.map byteV) ⟨t.toArray⟩ w h hBw (bytes_oneCell l) (by rw [List.length_map]; exact hlim)).mono ?_
  rintro e w' ⟨rfl, h3, h4, -⟩
  exact ⟨rfl, by unfold isBuf; rw [List.map_append]; exact h3, h4⟩
theorem buf_Bytes (B b : Nat) (l : List UInt8) (w : World) (h : isBuf B b l w) :
    Calls Tryd.prog 56 #[.pointer (some ⟨b, 0, none⟩)] w fun e w' => ∃ v, e = .returned v ∧ Own w' B v l ∧ ∃ n, w' = w.drewN n := by
  refine (Tryd.Buffer_Bytes B b (l.map byteV) w h).mono ?_
  rintro e w' ⟨v, rfl, h1, h2⟩
  rw [List.length_map] at h1
  exact ⟨v, rfl, h1, h2⟩

set_option maxRecDepth 100000 in
set_option maxHeartbeats 8000000 in
theorem code_Fields (v : Value) (fs : List Fld) (w : World) (hv : Flds w w.heap.size v fs) (hok : ∀ f ∈ fs, FldOk f) (htot : (fs.flatMap fbytes).length ≤ 1000000000) (hl : fs.length ≤ 1000000000) :
    Calls Tryd.prog 32 #[v] w fun e w' => ∃ v', e = .returned v' ∧ Own w' w.heap.size v' (fieldsB fs) ∧ Below w.heap.size w w' := by
  obtain ⟨ao, cap, rfl, _⟩ := id hv
  have HV := Lib.hid hv
  have HOK := Lib.hid hok
  have HT := Lib.hid htot
  clear hv hok htot
  generalize hn : fs.length = n at *
  have HN := Lib.hid hn
  clear hn
  have HS0 : Hid (isBuf w.heap.size w.heap.size [] (w.alloc (.cells #[.slice none 0 0, .int .i64 0, .int .i8 0] 90))) := Lib.fresh_isBuffer _ _ w
  have HS1 : Hid (Below w.heap.size w (w.alloc (.cells #[.slice none 0 0, .int .i64 0, .int .i8 0] 90))) := (Below.refl _ _).alloc (Nat.le_refl _) _
  go_enter Tryd.func32, Tryd.ntmps32
  go_wp2
  go_loopw [8] (fun i wr => ∃ j : Nat, j ≤ n ∧ i = .int .i64 (j : Int) ∧ Hid (∀ f ∈ fs.take j, rightB f = true) ∧ Hid (isBuf w.heap.size w.heap.size (fpreB fs j) wr) ∧ Hid (Below w.heap.size w wr)) (fun i _ => n - (intOf i).toNat)
  case atStart => exact ⟨0, by omega, rfl, by intro f hf; simp at hf, HS0.out, HS1.out⟩
  case round =>
    obtain ⟨j, hj, rfl, HR, HO, HB⟩ := hrel
    by_cases hlt : j < n
    · obtain ⟨⟨k, num, t, is_⟩, hf⟩ : ∃ f, fs[j]? = some f := ⟨fs[j]'(by have := HN.out; omega), List.getElem?_eq_getElem _⟩
      have hne : fs ≠ [] := by intro h; subst h; simp at hf
      have hvr := HV.out.below HB.out HB.out.size
      obtain ⟨ao', cap', he, _, _, hx⟩ := hvr
      injection he with e1 e2 e3
      subst e1 e3
      obtain ⟨b, off, rfl, _, hcell⟩ := hx hne
      obtain ⟨k0, k1, k2, k3⟩ := hcell j _ hf
      simp only at k0 k1 k2 k3
      obtain ⟨ok1, ok2, ok3⟩ := HOK.out _ (List.mem_of_getElem? hf)
      simp only at ok1 ok2 ok3
      have hps := fpreB_succ fs j _ hf
      have hpl := fpreB_le fs j
      have hpl1 := fpreB_le fs (j + 1)
      have htt := HT.out
      have HF := Lib.hid hf
      have HPS := Lib.hid hps
      clear hx hcell e2 hf hps
      have hsb := HB.out.size
      have c1 := code_right ⟨k, num, t, is_⟩ (wr.alloc (.cells #[.int .i64 k, .int .i64 num, .string ⟨t.toArray⟩, .bool is_] 92))
      unfold Fld.val at c1
      simp only at c1
      have hlt0 := Lib.IsBuffer.lt HO.out
      by_cases hr : rightB ⟨k, num, t, is_⟩ = true
      · rw [hr] at c1
        have HRR := Lib.hid hr
        have hks := right_kinds hr
        clear hr
        have hB00 : Below wr.heap.size wr (wr.alloc (.cells #[.int .i64 k, .int .i64 num, .string ⟨t.toArray⟩, .bool is_] 92)) := (Below.refl _ _).alloc (Nat.le_refl _) _
        have hown1 := isBuf_below HO.out hB00
        have hB0 : Below w.heap.size w (wr.alloc (.cells #[.int .i64 k, .int .i64 num, .string ⟨t.toArray⟩, .bool is_] 92)) := HB.out.alloc hsb _
        have hsa : (wr.alloc (.cells #[.int .i64 k, .int .i64 num, .string ⟨t.toArray⟩, .bool is_] 92)).heap.size = wr.heap.size + 1 := by simp
        rcases hks with ⟨rfl, hn0⟩ | rfl | rfl | rfl
        · -- kind 1
          obtain ⟨m, rfl⟩ : ∃ m : Nat, num = (m : Int) := ⟨num.toNat, by omega⟩
          go_wp2_with fail
          refine c1.mono ?_
          rintro e w1 ⟨rfl, hB1⟩
          have hgb : w1.heap[wr.heap.size]? = _ := (hB1.block _ (by simp)).trans (heap_alloc_new wr _)
          have g0 := cell_of_row _ _ 0 _ _ _ hgb
          have g1 := cell_of_row _ _ 1 _ _ _ hgb
          have g2 := cell_of_row _ _ 2 _ _ _ hgb
          have g3 := cell_of_row _ _ 3 _ _ _ hgb
          simp only [List.getElem?_toArray, List.getElem?_cons_zero, List.getElem?_cons_succ] at g0 g1 g2 g3
          have hB01 := hB0.trans (hB1.mono hB0.size)
          have hown2 : isBuf w.heap.size w.heap.size (fpreB fs j) w1 := isBuf_below hown1 hB1
          have hs1 := hB1.size
          rw [hsa] at hs1
          have c2 := code_number (.slice none 0 0) [] m w1 w1.heap.size (by omega) (Own.nil _ _) (Nat.le_refl _) (by decide)
          rw [List.nil_append] at c2
          have hvl := vint_len m (by omega)
          have hps2 : fpreB fs (j + 1) = fpreB fs j ++ (vint m) := HPS.out
          have hpl2 : (fpreB fs j).length + (vint m).length ≤ 1000000000 := by
            rw [hps2, List.length_append] at hpl1
            omega
          have HPS2 := Lib.hid hps2
          have HB01 := Lib.hid hB01
          have HU := Lib.hid hown2
          have HGB := Lib.hid hgb
          clear c1 hgb hB1 hB0 hown1 hown2 hB01 k0 k1 k2 k3 hps2 hpl1 hB00
          go_wp2_with fail
          refine c2.mono ?_
          rintro e w2 ⟨v2, rfl, hO2, hB2⟩
          have hB12 := HB01.out.trans (hB2.mono HB01.out.size)
          have c3 := buf_Write w.heap.size w.heap.size (fpreB fs j) (vint m) v2 w1.heap.size w2 (isBuf_below HU.out hB2) hB12.size hO2 (by omega) (by omega) (by omega)
          have HB12 := Lib.hid hB12
          have hgk : ∀ i, w2.cell? ⟨wr.heap.size, i, none⟩ = w1.cell? ⟨wr.heap.size, i, none⟩ := fun i => hB2.cell (p := ⟨wr.heap.size, i, none⟩) (by show wr.heap.size < _; omega)
          rw [← hgk] at g0 g1 g2 g3
          have HG2 := Lib.hid ((hB2.block wr.heap.size (by omega)).trans HGB.out)
          clear c2 hO2 hB2 hB12 hgk
          go_wp2_with fail
          refine c3.mono ?_
          rintro e w3 ⟨rfl, hU3, hB3, hK3⟩
          clear c3
          have HU3 : Hid (isBuf w.heap.size w.heap.size (fpreB fs (j + 1)) w3) := by
            show isBuf _ _ _ _
            rw [HPS2.out]
            exact hU3
          have HB3 := Lib.hid (HB12.out.trans hB3)
          have HR2 := Lib.hid (take_right fs j _ HF.out HRR.out HR.out)
          clear hU3 hB3 g0 g1 g2 g3
          go_wp2_with fail
          go_roundw
          case rel => exact ⟨j + 1, by omega, by go_num, HR2, HU3, HB3⟩
          case measure => simp [intOf]; omega
        · -- kind 2

          go_wp2_with fail
          refine c1.mono ?_
          rintro e w1 ⟨rfl, hB1⟩
          have hgb : w1.heap[wr.heap.size]? = _ := (hB1.block _ (by simp)).trans (heap_alloc_new wr _)
          have g0 := cell_of_row _ _ 0 _ _ _ hgb
          have g1 := cell_of_row _ _ 1 _ _ _ hgb
          have g2 := cell_of_row _ _ 2 _ _ _ hgb
          have g3 := cell_of_row _ _ 3 _ _ _ hgb
          simp only [List.getElem?_toArray, List.getElem?_cons_zero, List.getElem?_cons_succ] at g0 g1 g2 g3
          have hB01 := hB0.trans (hB1.mono hB0.size)
          have hown2 : isBuf w.heap.size w.heap.size (fpreB fs j) w1 := isBuf_below hown1 hB1
          have hs1 := hB1.size
          rw [hsa] at hs1
          have cz := code_folded num w1 ok1 ok2
          have c2 := code_number (.slice none 0 0) [] (zig num) w1 w1.heap.size (zig_lt num ok1 ok2) (Own.nil _ _) (Nat.le_refl _) (by decide)
          rw [List.nil_append] at c2
          have hvl := vint_len (zig num) (zig_lt num ok1 ok2)
          have hps2 : fpreB fs (j + 1) = fpreB fs j ++ (vint (zig num)) := HPS.out
          have hpl2 : (fpreB fs j).length + (vint (zig num)).length ≤ 1000000000 := by
            rw [hps2, List.length_append] at hpl1
            omega
          have HPS2 := Lib.hid hps2
          have HB01 := Lib.hid hB01
          have HU := Lib.hid hown2
          have HGB := Lib.hid hgb
          clear c1 hgb hB1 hB0 hown1 hown2 hB01 k0 k1 k2 k3 hps2 hpl1 hB00
          go_wp2_with fail
          refine cz.mono ?_
          rintro e w1' ⟨rfl, hw1⟩
          obtain rfl : w1 = w1' := hw1.symm
          clear cz
          go_wp2_with fail
          refine c2.mono ?_
          rintro e w2 ⟨v2, rfl, hO2, hB2⟩
          have hB12 := HB01.out.trans (hB2.mono HB01.out.size)
          have c3 := buf_Write w.heap.size w.heap.size (fpreB fs j) (vint (zig num)) v2 w1.heap.size w2 (isBuf_below HU.out hB2) hB12.size hO2 (by omega) (by omega) (by omega)
          have HB12 := Lib.hid hB12
          have hgk : ∀ i, w2.cell? ⟨wr.heap.size, i, none⟩ = w1.cell? ⟨wr.heap.size, i, none⟩ := fun i => hB2.cell (p := ⟨wr.heap.size, i, none⟩) (by show wr.heap.size < _; omega)
          rw [← hgk] at g0 g1 g2 g3
          have HG2 := Lib.hid ((hB2.block wr.heap.size (by omega)).trans HGB.out)
          clear c2 hO2 hB2 hB12 hgk
          go_wp2_with fail
          refine c3.mono ?_
          rintro e w3 ⟨rfl, hU3, hB3, hK3⟩
          clear c3
          have HU3 : Hid (isBuf w.heap.size w.heap.size (fpreB fs (j + 1)) w3) := by
            show isBuf _ _ _ _
            rw [HPS2.out]
            exact hU3
          have HB3 := Lib.hid (HB12.out.trans hB3)
          have HR2 := Lib.hid (take_right fs j _ HF.out HRR.out HR.out)
          clear hU3 hB3 g0 g1 g2 g3
          go_wp2_with fail
          go_roundw
          case rel => exact ⟨j + 1, by omega, by go_num, HR2, HU3, HB3⟩
          case measure => simp [intOf]; omega
        · -- kind 3

          go_wp2_with fail
          refine c1.mono ?_
          rintro e w1 ⟨rfl, hB1⟩
          have hgb : w1.heap[wr.heap.size]? = _ := (hB1.block _ (by simp)).trans (heap_alloc_new wr _)
          have g0 := cell_of_row _ _ 0 _ _ _ hgb
          have g1 := cell_of_row _ _ 1 _ _ _ hgb
          have g2 := cell_of_row _ _ 2 _ _ _ hgb
          have g3 := cell_of_row _ _ 3 _ _ _ hgb
          simp only [List.getElem?_toArray, List.getElem?_cons_zero, List.getElem?_cons_succ] at g0 g1 g2 g3
          have hB01 := hB0.trans (hB1.mono hB0.size)
          have hown2 : isBuf w.heap.size w.heap.size (fpreB fs j) w1 := isBuf_below hown1 hB1
          have hs1 := hB1.size
          rw [hsa] at hs1
          have c2 := code_number (.slice none 0 0) [] t.length w1 w1.heap.size (by omega) (Own.nil _ _) (Nat.le_refl _) (by decide)
          rw [List.nil_append] at c2
          have hvl := vint_len t.length (by omega)
          have hps2 : fpreB fs (j + 1) = fpreB fs j ++ (vint t.length ++ t) := HPS.out
          have hpl2 : (fpreB fs j).length + (vint t.length ++ t).length ≤ 1000000000 := by
            rw [hps2, List.length_append] at hpl1
            omega
          have HPS2 := Lib.hid hps2
          have HB01 := Lib.hid hB01
          have HU := Lib.hid hown2
          have HGB := Lib.hid hgb
          clear c1 hgb hB1 hB0 hown1 hown2 hB01 k0 k1 k2 k3 hps2 hpl1 hB00
          go_wp2_with fail
          refine c2.mono ?_
          rintro e w2 ⟨v2, rfl, hO2, hB2⟩
          have hB12 := HB01.out.trans (hB2.mono HB01.out.size)
          have c3 := buf_Write w.heap.size w.heap.size (fpreB fs j) (vint t.length) v2 w1.heap.size w2 (isBuf_below HU.out hB2) hB12.size hO2 (by omega) (by omega) (by simp at hpl2; omega)
          have HB12 := Lib.hid hB12
          have hgk : ∀ i, w2.cell? ⟨wr.heap.size, i, none⟩ = w1.cell? ⟨wr.heap.size, i, none⟩ := fun i => hB2.cell (p := ⟨wr.heap.size, i, none⟩) (by show wr.heap.size < _; omega)
          rw [← hgk] at g0 g1 g2 g3
          have HG2 := Lib.hid ((hB2.block wr.heap.size (by omega)).trans HGB.out)
          clear c2 hO2 hB2 hB12 hgk
          go_wp2_with fail
          refine c3.mono ?_
          rintro e w3 ⟨rfl, hU3, hB3, hK3⟩
          clear c3
          have hg2b : w2.heap[wr.heap.size]? = some (.cells #[.int .i64 3, .int .i64 num, .string ⟨t.toArray⟩, .bool is_] 92 (0, 0)) := HG2.out
          have hg3b := hK3 _ _ hg2b (by simp; omega) (by intro c fz h; cases h)
          have m2 : w3.cell? ⟨wr.heap.size, 2, none⟩ = some (.string ⟨t.toArray⟩) := cell_of_row _ _ 2 _ _ _ hg3b
          have hB123 := HB12.out.trans hB3
          have c4 := buf_WriteString w.heap.size w.heap.size (fpreB fs j ++ vint t.length) t w3 hU3 hB123.size (by simp at hpl2 ⊢; omega)
          have HB123 := Lib.hid hB123
          clear hU3 hB3 hB123 hK3 hg2b hg3b g0 g1 g2 g3
          go_wp2_with fail
          refine c4.mono ?_
          rintro e w4 ⟨rfl, hU4, hB4⟩
          clear c4
          have HU4 : Hid (isBuf w.heap.size w.heap.size (fpreB fs (j + 1)) w4) := by
            show isBuf _ _ _ _
            rw [HPS2.out, ← List.append_assoc]
            exact hU4
          have HB4 := Lib.hid (HB123.out.trans hB4)
          have HR2 := Lib.hid (take_right fs j _ HF.out HRR.out HR.out)
          clear hU4 hB4
          go_wp2_with fail
          go_roundw
          case rel => exact ⟨j + 1, by omega, by go_num, HR2, HU4, HB4⟩
          case measure => simp [intOf]; omega
        · -- kind 4

          go_wp2_with fail
          refine c1.mono ?_
          rintro e w1 ⟨rfl, hB1⟩
          have hgb : w1.heap[wr.heap.size]? = _ := (hB1.block _ (by simp)).trans (heap_alloc_new wr _)
          have g0 := cell_of_row _ _ 0 _ _ _ hgb
          have g1 := cell_of_row _ _ 1 _ _ _ hgb
          have g2 := cell_of_row _ _ 2 _ _ _ hgb
          have g3 := cell_of_row _ _ 3 _ _ _ hgb
          simp only [List.getElem?_toArray, List.getElem?_cons_zero, List.getElem?_cons_succ] at g0 g1 g2 g3
          have hB01 := hB0.trans (hB1.mono hB0.size)
          have hown2 : isBuf w.heap.size w.heap.size (fpreB fs j) w1 := isBuf_below hown1 hB1
          have hs1 := hB1.size
          rw [hsa] at hs1
          have c2 := code_Flag (.slice none 0 0) [] is_ w1 (Bts.nil _ _) (by decide)
          rw [List.nil_append] at c2
          have hvl := vint_len (flagN is_) (by unfold flagN; split <;> omega)
          have hps2 : fpreB fs (j + 1) = fpreB fs j ++ (vint (flagN is_)) := HPS.out
          have hpl2 : (fpreB fs j).length + (vint (flagN is_)).length ≤ 1000000000 := by
            rw [hps2, List.length_append] at hpl1
            omega
          have HPS2 := Lib.hid hps2
          have HB01 := Lib.hid hB01
          have HU := Lib.hid hown2
          have HGB := Lib.hid hgb
          clear c1 hgb hB1 hB0 hown1 hown2 hB01 k0 k1 k2 k3 hps2 hpl1 hB00
          go_wp2_with fail
          refine c2.mono ?_
          rintro e w2 ⟨v2, rfl, hO2, hB2⟩
          have hB12 := HB01.out.trans (hB2.mono HB01.out.size)
          have c3 := buf_Write w.heap.size w.heap.size (fpreB fs j) (vint (flagN is_)) v2 w1.heap.size w2 (isBuf_below HU.out hB2) hB12.size hO2 (by omega) (by omega) (by omega)
          have HB12 := Lib.hid hB12
          have hgk : ∀ i, w2.cell? ⟨wr.heap.size, i, none⟩ = w1.cell? ⟨wr.heap.size, i, none⟩ := fun i => hB2.cell (p := ⟨wr.heap.size, i, none⟩) (by show wr.heap.size < _; omega)
          rw [← hgk] at g0 g1 g2 g3
          have HG2 := Lib.hid ((hB2.block wr.heap.size (by omega)).trans HGB.out)
          clear c2 hO2 hB2 hB12 hgk
          go_wp2_with fail
          refine c3.mono ?_
          rintro e w3 ⟨rfl, hU3, hB3, hK3⟩
          clear c3
          have HU3 : Hid (isBuf w.heap.size w.heap.size (fpreB fs (j + 1)) w3) := by
            show isBuf _ _ _ _
            rw [HPS2.out]
            exact hU3
          have HB3 := Lib.hid (HB12.out.trans hB3)
          have HR2 := Lib.hid (take_right fs j _ HF.out HRR.out HR.out)
          clear hU3 hB3 g0 g1 g2 g3
          go_wp2_with fail
          go_roundw
          case rel => exact ⟨j + 1, by omega, by go_num, HR2, HU3, HB3⟩
          case measure => simp [intOf]; omega
      · have hr' : rightB ⟨k, num, t, is_⟩ = false := by simpa using hr
        rw [hr'] at c1
        have hB0 := Lib.hid (HB.out.alloc hsb (.cells #[.int .i64 k, .int .i64 num, .string ⟨t.toArray⟩, .bool is_] 92))
        have HE := Lib.hid (fieldsB_bad fs j _ HF.out hr')
        clear hr hr'
        go_wp2_with fail
        refine c1.mono ?_
        rintro e w1 ⟨rfl, hB1⟩
        go_wp2
        go_ret
        rw [HE.out]
        exact ⟨_, rfl, Own.nil _ _, hB0.out.trans (hB1.mono hB0.out.size)⟩
    · have HE := Lib.hid (fieldsB_all fs j (by have := HN.out; omega) HR.out)
      have c3 := buf_Bytes w.heap.size w.heap.size (fpreB fs j) wr HO.out
      go_wp2_with fail
      refine c3.mono ?_
      rintro e w3 ⟨v3, rfl, hO3, n3, rfl⟩
      clear c3
      go_wp2
      go_ret
      rw [HE.out]
      exact ⟨_, rfl, hO3, HB.out.trans (bdN _ _ _)⟩

end Go.Proofs.YtgnpjenpehfjbaaDoor

