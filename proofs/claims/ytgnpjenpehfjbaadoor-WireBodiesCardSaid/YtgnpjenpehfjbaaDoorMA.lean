/- General lemmas of this seat's proofs, no statement of the seat: numbers of 32 bits as bit vectors, slices of bytes as lists, append onto a slice of the call's own.
Slices of bytes that a call makes itself, by this seat's own types.
append of bytes where the sum may pass 2^47: the growth is a quarter there.
A range over a function whose iterator reads memory and makes blocks of its own between two rounds: what it hands over may be known by what it holds in memory ('R').
What seal.Sum and the document's Sum compute: two folds over the bytes.
The two check sums are one: the table's remainders of half bytes against the single bits.
What seal.Seal and the document's Seal make: the frame of a body.
What seal.Open and the document's Open take.
Open, the program's and the document's: one contract each, over the list of bytes.
The document's Open: the same answers. -/
import Derived.Test.YtgnpjenpehfjbaaDoorRows
import Derived.WalkKit
import Derived.WalkSpells
import Derived.WalkLawsBesides
import Derived.Lib.Hide
import Derived.Laws.AppendOwnNone
import Derived.Deep.DeepAppendWide
import Derived.RangeFuncNested
import Derived.RangeFuncBound
import Derived.RangeFuncCalls
import Derived.RangeFuncLeaves
import Derived.Shelf.Abstract
import Derived.Shelf.RegionOpen
import Derived.OwnWalkIn
import Derived.TacticsInMore
import Derived.LoopNIn
import Derived.LoopIn
import Derived.Deep.QuietTactic
import Derived.BigQuiet
set_option linter.unusedSimpArgs false
set_option linter.unusedVariables false
namespace Go.Proofs.YtgnpjenpehfjbaaDoor
open Go.RowKit

theorem wrap_u32_nat (n : Nat) (h : n < 4294967296) : IntKind.u32.wrap (n : Int) = (n : Int) := by
  simp only [IntKind.wrap_u32]; omega
theorem ofInt_toNat32 (x : BitVec 32) : BitVec.ofInt IntKind.u32.bits (x.toNat : Int) = x := by
  show BitVec.ofInt 32 (x.toNat : Int) = x
  apply BitVec.eq_of_toNat_eq; simp
/-- a number of 32 bits, closed to the walk -/
def b32 (x : BitVec 32) : Int := (x.toNat : Int)
theorem b32_inj {x y : BitVec 32} (h : b32 x = b32 y) : x = y := by
  unfold b32 at h
  exact BitVec.eq_of_toNat_eq (by omega)
theorem bits_xor_u32 (x y : BitVec 32) : bits .xor .u32 (b32 x) (b32 y) = b32 (x ^^^ y) := by
  unfold bits b32
  simp only [ofInt_toNat32]
  exact wrap_u32_nat _ (x ^^^ y).isLt
theorem bits_and_u32 (x y : BitVec 32) : bits .and .u32 (b32 x) (b32 y) = b32 (x &&& y) := by
  unfold bits b32
  simp only [ofInt_toNat32]
  exact wrap_u32_nat _ (x &&& y).isLt
theorem bits_or_u32 (x y : BitVec 32) : bits .or .u32 (b32 x) (b32 y) = b32 (x ||| y) := by
  unfold bits b32
  simp only [ofInt_toNat32]
  exact wrap_u32_nat _ (x ||| y).isLt
/-- a byte as a number of 32 bits -/
def w32 (x : UInt8) : BitVec 32 := BitVec.ofNat 32 x.toNat
theorem w32_toNat (x : UInt8) : b32 (w32 x) = x.toNat := by
  have := x.toNat_lt
  unfold w32 b32; rw [BitVec.toNat_ofNat]; omega
theorem bits_xor_u32_u8 (r : BitVec 32) (x : UInt8) : bits .xor .u32 (b32 r) (x.toNat : Int) = b32 (r ^^^ w32 x) := by
  rw [← w32_toNat]; exact bits_xor_u32 _ _
theorem u8_mod32 (x : UInt8) : (x.toNat : Int) % 4294967296 = (x.toNat : Int) := by have := x.toNat_lt; omega
attribute [go_sem] u8_mod32 bits_xor_u32 bits_and_u32 bits_or_u32 bits_xor_u32_u8

/-- '|' on two numbers from 0 on -/
theorem bits_or_i64 (x y : Nat) (hx : x < 9223372036854775808) (hy : y < 9223372036854775808) : bits .or .i64 (x : Int) (y : Int) = ((x ||| y : Nat) : Int) := by
  unfold bits
  have e : ∀ z : Nat, z < 9223372036854775808 → BitVec.ofInt IntKind.i64.bits (z : Int) = (BitVec.ofNat 64 z : BitVec 64) := by
    intro z hz
    apply BitVec.eq_of_toNat_eq
    show (BitVec.ofInt 64 (z : Int)).toNat = (BitVec.ofNat 64 z : BitVec 64).toNat
    rw [BitVec.toNat_ofInt, BitVec.toNat_ofNat]; omega
  rw [e x hx, e y hy]
  show IntKind.i64.wrap (((BitVec.ofNat 64 x : BitVec 64) ||| (BitVec.ofNat 64 y : BitVec 64)).toNat : Int) = _
  rw [BitVec.toNat_or, BitVec.toNat_ofNat, BitVec.toNat_ofNat, Nat.mod_eq_of_lt (by omega), Nat.mod_eq_of_lt (by omega)]
  have : x ||| y < 2 ^ 63 := Nat.or_lt_two_pow (by omega) (by omega)
  simp only [IntKind.wrap_i64]
  omega
theorem or_byte (x y : Nat) (hx : x < 256) : x ||| (y * 256) = x + 256 * y := by
  have := Nat.two_pow_add_eq_or_of_lt (i := 8) (b := x) (by omega) y
  rw [Nat.or_comm, Nat.mul_comm y 256]
  rw [show (2 : Nat) ^ 8 = 256 from rfl] at this
  omega
theorem bdN (B : Nat) (w : World) (k : Nat) : Below B w (w.drewN k) := ⟨rfl, rfl, rfl, Nat.le_refl _, fun _ _ => rfl⟩
/-- a byte's cell -/
abbrev byteV (c : UInt8) : Value := .int .u8 (c.toNat : Int)

/-- THE SLICE VALUE v READS AS THE BYTES l, all of it below block B. -/
def Bts (w : World) (B : Nat) (v : Value) (l : List UInt8) : Prop :=
  ∃ ao cap, v = .slice ao l.length cap ∧ l.length ≤ cap ∧ l.length ≤ maxLen ∧ (ao = none → cap = 0) ∧
    (l ≠ [] → ∃ b off, ao = some ⟨b, off, none⟩ ∧ b < B ∧ ∀ i, i < l.length → w.cell? ⟨b, off + i, none⟩ = some (.int .u8 ((l.getD i 0).toNat : Int)))

theorem Bts.form {w : World} {B : Nat} {v : Value} {l : List UInt8} (h : Bts w B v l) :
    (l = [] ∧ ∃ ao cap, v = .slice ao 0 cap ∧ (ao = none → cap = 0)) ∨
    (0 < l.length ∧ ∃ b off cap, v = .slice (some ⟨b, off, none⟩) l.length cap ∧ l.length ≤ cap ∧ l.length ≤ 9223372036854775807 ∧ b < B ∧ ∀ i, i < l.length → w.cell? ⟨b, off + i, none⟩ = some (.int .u8 ((l.getD i 0).toNat : Int))) := by
  obtain ⟨ao, cap, rfl, hc, hm, hn, hl⟩ := h
  cases l with
  | nil => exact .inl ⟨rfl, ao, cap, rfl, hn⟩
  | cons x r =>
    obtain ⟨b, off, rfl, hb, hcell⟩ := hl (by simp)
    exact .inr ⟨by simp, b, off, cap, rfl, hc, by simpa [maxLen] using hm, hb, hcell⟩

theorem Bts.len {w : World} {B : Nat} {v : Value} {l : List UInt8} (h : Bts w B v l) : l.length ≤ 9223372036854775807 := by
  obtain ⟨ao, cap, rfl, hc, hm, hn, hl⟩ := h
  simpa [maxLen] using hm

theorem Bts.nil (w : World) (B : Nat) : Bts w B (.slice none 0 0) [] := ⟨none, 0, rfl, by simp, by simp, fun _ => rfl, fun h => absurd rfl h⟩

theorem Bts.below {w w' : World} {B B' : Nat} {v : Value} {l : List UInt8} (h : Bts w B v l) (hb : Below B w w') (hB : B ≤ B') : Bts w' B' v l := by
  obtain ⟨ao, cap, rfl, hc, hm, hn, hl⟩ := h
  refine ⟨ao, cap, rfl, hc, hm, hn, fun hne => ?_⟩
  obtain ⟨b, off, rfl, hbB, hcell⟩ := hl hne
  exact ⟨b, off, rfl, by omega, fun i hi => (hb.cell (p := ⟨b, off + i, none⟩) hbB).trans (hcell i hi)⟩

theorem Bts.mono {w : World} {B B' : Nat} {v : Value} {l : List UInt8} (h : Bts w B v l) (hB : B ≤ B') : Bts w B' v l := h.below (Below.refl _ _) hB

/-- A slice's string. -/
theorem strOf_bytes (l : List UInt8) : strOfNums (l.map fun c => (c.toNat : Int)) = ⟨l.toArray⟩ := by
  unfold strOfNums
  congr 2
  induction l with
  | nil => rfl
  | cons a r ih => simp only [List.map_cons, List.cons.injEq]; exact ⟨by simp, ih⟩

theorem Bts.str {P : Program} {w : World} {B : Nat} {v : Value} {l : List UInt8} (h : Bts w B v l) (src e dst : TypeId) (hs : P.underlying src = some (.slice e)) (he : P.underlying e = some (.int .u8))
    (hd : P.underlying dst = some .string) : (convert src dst v).run P w = .ok (.string ⟨l.toArray⟩) w := by
  rcases h.form with ⟨rfl, ao, cap, rfl, hn⟩ | ⟨hpos, b, off, cap, rfl, hcap, hm, hb, hc⟩
  · rw [run_convert_bytes_string w src dst e _ 0 cap hs he hd]
    cases ao with
    | none => simp [Conv.bytesToString]; rfl
    | some a => rw [run_bytesToString w a 0 cap [] (by simp [loadCells, loadCellsFrom])]; rfl
  · rw [run_convert_bytes_arg w src e hs he b off l.length cap (l.map fun c => (c.toNat : Int)) (by simp) (fun i hi => by rw [hc i hi]; simp [List.getD, hi]) dst hd, strOf_bytes]

/-- b[lo:] , b[lo:hi] : in every world. -/
theorem Bts.cut {P : Program} {w : World} {B : Nat} {v : Value} {l : List UInt8} (h : Bts w B v l) (t e : TypeId) (ht : P.underlying t = some (.slice e)) (hsz : P.elem t = e) (hone : ∀ W, (sizeOf e).run P W = .ok 1 W)
    (lo hi : Nat) (h1 : lo ≤ hi) (h2 : hi ≤ l.length) : ∃ v', Bts w B v' ((l.take hi).drop lo) ∧
      (∀ (W : World) (kl kh : IntKind), (Instr.slice t v (some (.int kl (lo : Int))) (some (.int kh (hi : Int))) none).run P W = .ok v' W) := by
  obtain ⟨ao, cap, rfl, hc, hm, hn, hl⟩ := h
  have hlen : ((l.take hi).drop lo).length = hi - lo := by simp; omega
  refine ⟨.slice (if cap = lo then ao else ao.map (·.add lo)) (hi - lo) (cap - lo), ⟨_, _, by rw [hlen], by rw [hlen]; omega, by rw [hlen]; omega, ?_, ?_⟩, ?_⟩
  · intro h0
    split at h0
    · omega
    · have : ao = none := by simpa using h0
      have := hn this; omega
  · intro hne
    have hlt : lo < hi := by
      rcases Nat.lt_or_ge lo hi with h | h
      · exact h
      · exact absurd (List.eq_nil_of_length_eq_zero (by omega)) hne
    obtain ⟨b, off, rfl, hbB, hcell⟩ := hl (by intro h; subst h; simp at h2; omega)
    refine ⟨b, off + lo, ?_, hbB, fun i hi' => ?_⟩
    · rw [if_neg (by omega)]
      simp [Addr.add]
    · rw [hlen] at hi'
      rw [Nat.add_assoc, hcell (lo + i) (by omega)]
      simp [List.getD, show lo + i < hi by omega]
  · intro W kl kh
    subst hsz
    rw [run_slice_lh W t ao l.length cap ht kl kh lo hi (by omega) (by omega) (by omega)]
    rw [hone]
    simp [sliced, Result.andThen]

end Go.Proofs.YtgnpjenpehfjbaaDoor

namespace Go.Proofs.YtgnpjenpehfjbaaDoor
open Go.RowKit

theorem info_u8 : (Tryd.prog.info? 5).map (fun i => (i.zero, i.size, i.bytes)) = some (some (.int .u8 0), 1, 1) := by kernel_rfl

/-- v is a slice of the call's own (blocks from B on) that holds the bytes l. -/
def Own (w : World) (B : Nat) (v : Value) (l : List UInt8) : Prop := w.ownsRow B 5 1 v l.length (l.map byteV)

theorem Own.bts {w : World} {B : Nat} {v : Value} {l : List UInt8} (h : Own w B v l) : Bts w w.heap.size v l := by
  obtain ⟨h1, h2⟩ := h
  rcases h2 with ⟨rfl, h0⟩ | ⟨g, cap, cur, rfl, hb, hg, hn, hcm, hcs, htake⟩
  · obtain rfl := List.eq_nil_of_length_eq_zero h0
    exact Bts.nil _ _
  · refine ⟨_, _, rfl, hn, by omega, fun h => by (cases h), fun _ => ⟨g, 0, rfl, (Array.getElem?_eq_some_iff.1 hg).1, fun i hi => ?_⟩⟩
    rw [Nat.zero_add, cell_of_row w g i cur _ _ hg]
    have h3 : (l.map byteV)[i]? = some (.int .u8 ((l.getD i 0).toNat : Int)) := by simp [List.getD, hi, byteV]
    rw [← htake, List.getElem?_take] at h3
    simpa [hi] using h3

theorem Own.nil (w : World) (B : Nat) : Own w B (.slice none 0 0) [] := World.ownsRow_nil _ _ _ _
theorem Own.mono {w : World} {B B' : Nat} {v : Value} {l : List UInt8} (h : Own w B v l) (hB : B' ≤ B) : Own w B' v l := by
  obtain ⟨h1, h2⟩ := h
  refine ⟨h1, ?_⟩
  rcases h2 with h2 | ⟨g, cap, cur, hv, hb, r⟩
  · exact .inl h2
  · exact .inr ⟨g, cap, cur, hv, by omega, r⟩
/-- what is owned stays so while other blocks turn -/
theorem Own.kept {w w' : World} {B : Nat} {v : Value} {l : List UInt8} {row : Option Nat} (h : Own w B v l) (hg : w.grownBy w' row) (hne : v.ownBlock = none ∨ v.ownBlock ≠ row) : Own w' B v l := World.ownsRow.kept h hg hne
theorem Own.lt {w : World} {B : Nat} {v : Value} {l : List UInt8} (h : Own w B v l) : ∀ k, v.ownBlock = some k → B ≤ k ∧ k < w.heap.size := World.ownsRow.lt h
/-- what is owned stays so while nothing that there is turns -/
theorem Own.below {w w' : World} {B : Nat} {v : Value} {l : List UInt8} (h : Own w B v l) (hb : Below w.heap.size w w') : Own w' B v l := by
  obtain ⟨h1, h2⟩ := h
  refine ⟨h1, ?_⟩
  rcases h2 with h2 | ⟨g, cap, cur, hv, hB, hg, r⟩
  · exact .inl h2
  · exact .inr ⟨g, cap, cur, hv, hB, by rw [hb.block g (Array.getElem?_eq_some_iff.1 hg).1]; exact hg, r⟩

theorem bytes_oneCell (l : List UInt8) : ∀ u ∈ l.map byteV, u.oneCell' = true := by
  intro u hu
  obtain ⟨c, _, rfl⟩ := List.mem_map.1 hu
  rfl

/-- append(s, x...) : s of the call's own, x whatever reads as bytes -/
theorem wpList_append_bts {w : World} {ops : Array Oper} {rest : List Oper} {o : Oper} {a : Act} {Q : Exit → Act → World → Prop} (hgd : o.guard = none) (s x : Operand)
    (ho : o.op = .call { callee := .builtin .append, args := #[s, x], argTypes := #[27, 27] })
    (base : Nat) (v : Value) (xs : List UInt8) (hs : a.eval s = v) (hown : Own w base v xs)
    (vx : Value) (l : List UInt8) (B : Nat) (hx : a.eval x = vx) (hb : Bts w B vx l)
    (hlen : xs.length + l.length ≤ 140737488355328) (hbase : base ≤ w.heap.size)
    (h : ∀ v' w', Own w' base v' (xs ++ l) → w.grownBy w' v.ownBlock → (v' = .slice none 0 0 ↔ v = .slice none 0 0 ∧ l = []) → wpList Tryd.prog ops Q rest (a.put o.dst v') w') : wpList Tryd.prog ops Q (o :: rest) a w := by
  obtain ⟨i0, hi, hz0, hz1, hz2⟩ := info_parts info_u8
  have main : ∀ (ad : Addr) (c : Nat), vx = .slice (some ad) l.length c → (∀ j u, (l.map byteV)[j]? = some u → w.cell? (ad.add j) = some u) → wpList Tryd.prog ops Q (o :: rest) a w := by
    intro ad c hv hcell
    refine wpList_append_own _ hgd s x _ ho base 5 i0 (.int .u8 0) 1 1 Tryd.underlying27 hi hz0 hz1 hz2 rfl (by decide) v xs.length (xs.map byteV) hs hown ad l.length c (l.map byteV) (hx.trans hv) (by simp) hcell
      (bytes_oneCell l) (by unfold maxLen; omega) (by omega) hbase ?_
    intro v' w' hown' hg hnil
    refine h v' w' (by unfold Own; simpa using hown') hg ?_
    rw [hnil]
    constructor
    · rintro ⟨h1, h2⟩; exact ⟨h1, List.eq_nil_of_length_eq_zero h2⟩
    · rintro ⟨h1, rfl⟩; exact ⟨h1, rfl⟩
  rcases hb.form with ⟨rfl, ao, cap, rfl, hn⟩ | ⟨hpos, b, off, cap, rfl, hcap, hm, hbB, hc⟩
  · cases ao with
    | some ad => exact main ad cap rfl (by intro j u hj; simp at hj)
    | none =>
      obtain rfl := hn rfl
      refine wpList_append_own_none hgd s x _ ho base 5 i0 1 Tryd.underlying27 hi v xs.length (xs.map byteV) hs hown hx ?_
      exact h v w (by simpa using hown) (World.grownBy.refl _ _) ⟨fun h => ⟨h, rfl⟩, fun h => h.1⟩
  · refine main ⟨b, off, none⟩ cap rfl ?_
    intro j u hj
    have hjl : j < l.length := by
      have := (List.getElem?_eq_some_iff.1 hj).1
      simpa using this
    rw [Addr.add_lit, hc j hjl]
    simp [hjl] at hj
    subst hj
    simp [List.getD, hjl]

/-- a literal of bytes, just laid: block g -/
theorem Bts.lit (w : World) (g : Nat) (cur : Array Value) (e : TypeId) (fr : Nat × Nat) (l : List UInt8) (n cap : Nat) (hg : w.heap[g]? = some (.cells cur e fr)) (hn : l.length = n) (hcap : n ≤ cap) (hm : n ≤ maxLen)
    (hcur : ∀ i, i < n → cur[i]? = some (.int .u8 ((l.getD i 0).toNat : Int))) : Bts w w.heap.size (.slice (some ⟨g, 0, none⟩) n cap) l := by
  subst hn
  refine ⟨_, _, rfl, hcap, hm, fun h => by (cases h), fun _ => ⟨g, 0, rfl, (Array.getElem?_eq_some_iff.1 hg).1, fun i hi => ?_⟩⟩
  rw [Nat.zero_add, cell_of_row w g i cur _ _ hg]
  exact hcur i hi

theorem sizeOf_u8 : ∀ W, (sizeOf 5).run Tryd.prog W = .ok 1 W := fun _ => by kernel_rfl
theorem elem_u8 : Tryd.prog.elem 27 = 5 := by kernel_rfl
theorem Bts.cutB {w : World} {B : Nat} {v : Value} {l : List UInt8} (h : Bts w B v l) (lo hi : Nat) (h1 : lo ≤ hi) (h2 : hi ≤ l.length) : ∃ v', Bts w B v' ((l.take hi).drop lo) ∧
      (∀ (W : World) (kl kh : IntKind), (Instr.slice 27 v (some (.int kl (lo : Int))) (some (.int kh (hi : Int))) none).run Tryd.prog W = .ok v' W) :=
  h.cut 27 5 Tryd.underlying27 elem_u8 sizeOf_u8 lo hi h1 h2
theorem Bts.fromB {w : World} {B : Nat} {v : Value} {l : List UInt8} (h : Bts w B v l) (lo : Nat) (h1 : lo ≤ l.length) : ∃ v', Bts w B v' (l.drop lo) ∧
      (∀ (W : World) (kl : IntKind), (Instr.slice 27 v (some (.int kl (lo : Int))) none none).run Tryd.prog W = .ok v' W) := by
  obtain ⟨v', hb', hrun⟩ := h.cutB lo l.length h1 (Nat.le_refl _)
  refine ⟨v', by simpa using hb', fun W kl => ?_⟩
  obtain ⟨ao, cap, rfl, hc, _⟩ := id h
  have h2 := hrun W kl kl
  rw [run_slice_lh W 27 ao l.length cap (by rw [elem_u8]; exact Tryd.underlying27) kl kl lo l.length (by omega) (by omega) (by omega)] at h2
  rw [run_slice_l W 27 ao l.length cap (by rw [elem_u8]; exact Tryd.underlying27) kl lo (by omega) (by omega)]
  simpa using h2
theorem Bts.toB {w : World} {B : Nat} {v : Value} {l : List UInt8} (h : Bts w B v l) (hi : Nat) (h1 : hi ≤ l.length) : ∃ v', Bts w B v' (l.take hi) ∧
      (∀ (W : World) (kh : IntKind), (Instr.slice 27 v none (some (.int kh (hi : Int))) none).run Tryd.prog W = .ok v' W) := by
  obtain ⟨v', hb', hrun⟩ := h.cutB 0 hi (by omega) h1
  refine ⟨v', by simpa using hb', fun W kl => ?_⟩
  obtain ⟨ao, cap, rfl, hc, _⟩ := id h
  have h2 := hrun W kl kl
  rw [run_slice_lh W 27 ao l.length cap (by rw [elem_u8]; exact Tryd.underlying27) kl kl (0 : Nat) hi (by omega) (by omega) (by omega)] at h2
  rw [run_slice_h W 27 ao l.length cap (by rw [elem_u8]; exact Tryd.underlying27) kl hi (by omega) (by omega)]
  simpa using h2
theorem Bts.strB {w : World} {B : Nat} {v : Value} {l : List UInt8} (h : Bts w B v l) : (convert 27 9 v).run Tryd.prog w = .ok (.string ⟨l.toArray⟩) w :=
  h.str 27 5 9 Tryd.underlying27 Tryd.underlying5 Tryd.underlying9

end Go.Proofs.YtgnpjenpehfjbaaDoor

namespace Go.Proofs.YtgnpjenpehfjbaaDoor
open Go.RowKit

end Go.Proofs.YtgnpjenpehfjbaaDoor

namespace Go.Proofs.YtgnpjenpehfjbaaDoor
open Go.RowKit

/-- what is said of a world stays true while nothing that is there turns -/
def StaysGrown {α : Type} (J : List α → World → Prop) : Prop := ∀ s W W', J s W → Below W.heap.size W W' → J s W'
/-- .. and while a block from B on turns that holds no cells -/
def StaysPut {α : Type} (B : Nat) (J : List α → World → Prop) : Prop := ∀ s W l (o o' : Obj), J s W → B ≤ l → W.heap[l]? = some o → o.isCells = false → J s (W.putObj l o')

/-- THE CONTRACT OF AN ITERATOR's VALUE. Inv: what it reads; R: what is known of an element when it is handed over; S: all have come; Sp: a part has come, and a round has said 'no more'. -/
def Iterates {α : Type} (F : Fence) (n : Nat) (P : Program) (g : Nat) (lb : Array Value) (encs : α → Array Value) (Inv : World → Prop) (R : List α → α → World → Prop) (S Sp : List α → Prop) : Prop :=
  ∀ (l : Nat) (J Jx : List α → World → Prop) (W : World), StaysGrown J → (∀ s W, J s W → Inv W) →
    (∀ pre x W1, J pre W1 → R pre x W1 → YieldAt F (n - 1) P l (encs x) W1 fun e W' =>
      (e = .returned (.bool true) ∧ J (pre ++ [x]) W') ∨ (e = .returned (.bool false) ∧ Jx (pre ++ [x]) W')) →
    J [] W →
    CallsIn F n P g (#[.func (.yield l) #[] #[]] ++ lb) W fun e W' => (∃ v, e = .returned v) ∧ ((∃ xs, S xs ∧ J xs W') ∨ (∃ pre, Sp pre ∧ Jx pre W'))

variable {F : Fence} {n : Nat} {P : Program}

theorem wpIn_range {α : Type} {g : Operand} {ps : Array Tmp} {assign body : Code} {Q : Exit → Act → World → Prop} {a : Act} {w : World}
    (hro : F.round = none) (h1 : 1 ≤ n) {gf : Nat} {lb : Array Value} (hg : a.eval g = .func (.func gf) #[] lb) (hFg : F.fn gf) (eg : ∀ args w, (callFunc gf args).run P w = .ok (.enter gf args) w)
    {encs : α → Array Value} {Inv : World → Prop} {R : List α → α → World → Prop} {S Sp : List α → Prop} (hit : Iterates F (n - 1) P gf lb encs Inv R S Sp)
    (hps : ∀ x, (encs x).size = ps.size)
    (hRput : ∀ pre x W l (o o' : Obj), R pre x W → W.heap[l]? = some o → o.isCells = false → R pre x (W.putObj l o'))
    (I : List α → World → Prop) (Ix : Code → List α → World → Prop) (hI : StaysGrown I) (hIp : StaysPut w.heap.size I) (hIxp : ∀ c, StaysPut w.heap.size (Ix c)) (hInv : ∀ s W, I s W → Inv W) (h0 : I [] w) (a₁ : α → Act)
    (hassign : ∀ (l : Nat) (x : α) (W : World) (K : Act → World → Prop), K (a₁ x) W →
      assign.wpIn (F.inRound l) (n - 1 - 1) P (Exit.then K (fun _ _ _ => False)) { tmps := (ps.zip (encs x)).foldl (fun t (p, v) => t.setIfInBounds p v) a.tmps, defers := [] } W)
    (hbody : ∀ (l : Nat) (pre : List α) (x : α) (W : World), I pre W → R pre x W → body.wpIn (F.inRound l) (n - 1 - 1) P (ownPost I Ix (pre ++ [x]) W) (a₁ x) W)
    (hdone : ∀ (D : Nat) (xs : List α) (W : World), S xs → I xs W → W.heap[D]? = some (.deferred (some [])) → w.heap.size ≤ D → Q .normal { a with defers := { target := .collected D, args := #[] } :: a.defers } W)
    (hstop : ∀ (D : Nat) (c : Code) (pre : List α) (W : World), Sp pre → Ix c pre W → W.heap[D]? = some (.deferred (some [])) → w.heap.size ≤ D → c.wpIn F n P Q { a with defers := { target := .collected D, args := #[] } :: a.defers } W) :
    (Code.rangeFunc g ps assign body).wpIn F n P Q a w := by
  refine wpIn_rangeFunc fun fn hfn => ?_
  rw [hro]
  have hlen : w.heap.size < (w.alloc (.deferred (some []))).heap.size := by simp
  generalize hr0 : (fun (st : LoopState) (pe : Option Code) => ({ state := st, pending := pe, fn, tmps := a.tmps, params := ps, assign, body, defers := w.heap.size } : Loop)) = mk
  have mkps : ∀ st pe, (mk st pe).params = ps := fun st pe => by rw [← hr0]
  have mkEnd : ∀ (W : World) (l : Nat) (st : LoopState) (pe : Option Code), st ≠ .busy → W.heap[l]? = some (.loop (mk st pe)) → (Instr.endLoop l).run P W = .ok pe (W.putObj l (.loop (mk .exhausted pe))) :=
    fun W l st pe hst hl => by subst hr0; exact run_endLoop hl hst
  have mkBegin : ∀ (W : World) (l : Nat) (pe : Option Code), W.heap[l]? = some (.loop (mk .ready pe)) → (Instr.beginRound l).run P W = .ok () (W.putObj l (.loop (mk .busy pe))) :=
    fun W l pe hl => by subst hr0; exact run_beginRound hl rfl
  have mkRound : ∀ (W : World) (l : Nat) (pe jump : Option Code), W.heap[l]? = some (.loop (mk .busy pe)) → (Instr.endRound l jump).run P W = .ok (.bool jump.isNone) (W.putObj l (.loop (mk (if jump.isNone then .ready else .done) jump))) :=
    fun W l pe jump hl => by subst hr0; exact run_endRound jump hl
  generalize hw1 : (w.alloc (.deferred (some []))).alloc (.loop (mk .ready none)) = W1
  have below1 : Below w.heap.size w W1 := by
    rw [← hw1]; exact ((Below.refl _ w).alloc (Nat.le_refl _) _).alloc (by simp) _
  have rec1 : W1.heap[w.heap.size + 1]? = some (.loop (mk .ready none)) := by
    rw [← hw1]; have := World.alloc_heap_new (w.alloc (.deferred (some []))) (.loop (mk .ready none)); rwa [World.size_alloc] at this
  have def1 : W1.heap[w.heap.size]? = some (.deferred (some [])) := by
    rw [← hw1]; exact (Below.heap_alloc _ _ _ hlen).trans (World.alloc_heap_new w _)
  have keep2 : ∀ {A B : World} {k : Nat} {o : Obj}, Below A.heap.size A B → A.heap[k]? = some o → B.heap[k]? = some o := fun hb hk => (hb.block _ (Array.getElem?_eq_some_iff.1 hk).1).trans hk
  refine ⟨w.heap.size + 1, [{ target := .collected w.heap.size, args := #[] }], W1, { target := .fn (.func gf) lb, args := #[.func (.yield (w.heap.size + 1)) #[] #[]] }, W1, gf,
    #[.func (.yield (w.heap.size + 1)) #[] #[]] ++ lb, W1, ?_, ?_, ?_, ?_, fun _ => h1, ?_⟩
  · rw [← hw1, ← hr0]; exact run_enterLoop_outer _ _ _ _ _
  · simp only [resolve, hg]
    simp [go_sem]
  · intro f' hf'
    simp [Target.leads] at hf'
    subst hf'
    exact hFg
  · simp [invoke, go_sem, eg]
  refine (hit (w.heap.size + 1)
    (fun pre W => I pre W ∧ W.heap[w.heap.size + 1]? = some (.loop (mk .ready none)) ∧ W.heap[w.heap.size]? = some (.deferred (some [])))
    (fun pre W => ∃ c, Ix c pre W ∧ W.heap[w.heap.size + 1]? = some (.loop (mk .done (some c))) ∧ W.heap[w.heap.size]? = some (.deferred (some [])))
    W1 (fun s A B h hb => ⟨hI s A B h.1 hb, keep2 hb h.2.1, keep2 hb h.2.2⟩) (fun s W h => hInv s W h.1) ?round ⟨hI [] w W1 h0 below1, rec1, def1⟩).mono ?after
  case after =>
    rintro e W2 ⟨⟨v, rfl⟩, (⟨xs, hS, hi, hl, hk⟩ | ⟨pre, hSp, c, hi, hl, hk⟩)⟩
    · have he := mkEnd _ _ _ _ (by simp) hl
      exact ⟨none, _, he, hdone _ xs _ hS (hIp _ _ _ _ _ hi (by omega) hl rfl) ((World.putObj_heap_other (by omega)).trans hk) (Nat.le_refl _)⟩
    · have he := mkEnd _ _ _ _ (by simp) hl
      exact ⟨some c, _, he, hstop _ c pre _ hSp (hIxp c _ _ _ _ _ hi (by omega) hl rfl) ((World.putObj_heap_other (by omega)).trans hk) (Nat.le_refl _)⟩
  case round =>
    rintro pre x W ⟨hi, hl, hk⟩ hR
    have hlt : w.heap.size + 1 < W.heap.size := (Array.getElem?_eq_some_iff.1 hl).1
    have hy := run_yield (P := P) (args := encs x) hl (by rw [mkps]; exact hps x)
    have hyy : (Instr.yield (w.heap.size + 1) (encs x)).run P W = .ok (.round (w.heap.size + 1) fn ((ps.zip (encs x)).foldl (fun t (p, v) => t.setIfInBounds p v) a.tmps) assign body) W := by
      rw [hy, ← hr0]
    refine ⟨fn, _, assign, body, hyy, roundIn_of_wpIn hfn (hassign _ x W _ ⟨_, mkBegin _ _ _ hl, ?_⟩)⟩
    generalize hwb : W.putObj (w.heap.size + 1) (.loop (mk .busy none)) = Wb
    have hlb : Wb.heap[w.heap.size + 1]? = some (.loop (mk .busy none)) := by rw [← hwb]; exact World.putObj_heap_same hlt
    have hkb : Wb.heap[w.heap.size]? = some (.deferred (some [])) := by rw [← hwb]; exact (World.putObj_heap_other (by omega)).trans hk
    have hib : I pre Wb := by rw [← hwb]; exact hIp _ _ _ _ _ hi (by omega) hl rfl
    have hRb : R pre x Wb := by rw [← hwb]; exact hRput _ _ _ _ _ _ hR hl rfl
    refine wpIn_mono (hbody _ pre x Wb hib hRb) ?_
    have fin : ∀ (jump : Option Code) (W3 : World), KeepsOthers Wb W3 → ∃ W4, (Instr.endRound (w.heap.size + 1) jump).run P W3 = .ok (.bool jump.isNone) W4 ∧ W4 = W3.putObj (w.heap.size + 1) (.loop (mk (if jump.isNone then .ready else .done) jump)) ∧
        W3.heap[w.heap.size + 1]? = some (.loop (mk .busy none)) ∧
        W4.heap[w.heap.size + 1]? = some (.loop (mk (if jump.isNone then .ready else .done) jump)) ∧ W4.heap[w.heap.size]? = some (.deferred (some [])) := by
      intro jump W3 hk3
      have hl3 := hk3.same _ _ hlb rfl
      have he := mkRound _ _ _ jump hl3
      exact ⟨_, he, rfl, hl3, World.putObj_heap_same (Array.getElem?_eq_some_iff.1 hl3).1, (World.putObj_heap_other (by omega)).trans (hk3.same _ _ hkb rfl)⟩
    rintro e a3 W3 hp
    cases e with
    | normal =>
      obtain ⟨hk3, hi3⟩ := hp
      obtain ⟨W4, hr, h4, hl3, hl4, hk4⟩ := fin none W3 hk3
      exact ⟨_, _, hr, .inl ⟨rfl, by rw [h4]; exact hIp _ _ _ _ _ hi3 (by omega) hl3 rfl, hl4, hk4⟩⟩
    | ret =>
      obtain ⟨hk3, hi3⟩ := hp
      obtain ⟨W4, hr, h4, hl3, hl4, hk4⟩ := fin (some .ret) W3 hk3
      exact ⟨_, _, hr, .inr ⟨rfl, .ret, by rw [h4]; exact hIxp _ _ _ _ _ _ hi3 (by omega) hl3 rfl, hl4, hk4⟩⟩
    | exit id =>
      obtain ⟨hk3, hi3⟩ := hp
      obtain ⟨W4, hr, h4, hl3, hl4, hk4⟩ := fin (some (.exit id)) W3 hk3
      exact ⟨_, _, hr, .inr ⟨rfl, .exit id, by rw [h4]; exact hIxp _ _ _ _ _ _ hi3 (by omega) hl3 rfl, hl4, hk4⟩⟩
    | goto t =>
      obtain ⟨hk3, hi3⟩ := hp
      obtain ⟨W4, hr, h4, hl3, hl4, hk4⟩ := fin (some (.goto t)) W3 hk3
      exact ⟨_, _, hr, .inr ⟨rfl, .goto t, by rw [h4]; exact hIxp _ _ _ _ _ _ hi3 (by omega) hl3 rfl, hl4, hk4⟩⟩
    | panic ch => exact hp.elim
    | outgrown => exact hp.elim

theorem getD_lt {listed : Array Bool} {i : Nat} (h : listed.getD i true = false) : ∃ hlt : i < listed.toList.length, listed.toList[i] = false := by
  by_cases hlt : i < listed.size
  · refine ⟨by simpa using hlt, ?_⟩
    simpa [Array.getD, hlt] using h
  · simp [Array.getD, hlt] at h
theorem count_set_one {l : List Bool} {i : Nat} (hlt : i < l.length) (hf : l[i] = false) : (l.set i true).count false + 1 = l.count false := by
  rw [List.count_set hlt, hf]
  have : 0 < l.count false := List.count_pos_iff.2 (by rw [← hf]; exact List.getElem_mem hlt)
  simp
  omega
/-- A REGION THAT DRAWS ITS ORDER, BY AN INVARIANT: what holds when the operations marked in 'listed' have run, whatever their order was. -/
theorem wpAnyIn_inv {ops : Array Oper} {Q : Exit → Act → World → Prop} (Inv : Array Bool → Act → World → Prop)
    (hstep : ∀ (listed : Array Bool) (i : Nat) (a : Act) (w : World), Inv listed a w → i ∈ Region.ready .any ops listed → wpOpIn F n P ops Q i (fun a' w' => Inv (listed.setIfInBounds i true) a' w') a w)
    (hend : ∀ (listed : Array Bool) (a : Act) (w : World), Inv listed a w → Region.ready .any ops listed = [] → Q .normal a w) :
    ∀ (fuel : Nat) (listed : Array Bool) (a : Act) (w : World), listed.toList.count false ≤ fuel → Inv listed a w → wpAnyIn F n P .any ops Q fuel listed a w := by
  intro fuel
  induction fuel with
  | zero =>
    intro listed a w hc hi
    have hr : Region.ready .any ops listed = [] := by
      cases h : Region.ready .any ops listed with
      | nil => rfl
      | cons i r =>
        have hm : i ∈ Region.ready .any ops listed := by rw [h]; simp
        obtain ⟨hlt, hf⟩ := getD_lt (mem_ready.1 hm).1
        have := count_set_one hlt hf
        omega
    exact ⟨hr, hend listed a w hi hr⟩
  | succ fuel ih =>
    intro listed a w hc hi
    refine ⟨fun hr => hend listed a w hi hr, fun i hm => ?_⟩
    refine wpOpIn_mono (fun a' w' h' => ih _ a' w' ?_ h') (hstep listed i a w hi hm)
    obtain ⟨hlt, hf⟩ := getD_lt (mem_ready.1 hm).1
    have := count_set_one hlt hf
    simp only [Array.toList_setIfInBounds]
    omega
/-- what has run has run behind what it waits for -/
def Ordered (ops : Array Oper) (listed : Array Bool) : Prop := listed.size = ops.size ∧ ∀ i o, ops[i]? = some o → listed.getD i false = true → ∀ e ∈ o.after, Region.binds .any e = true → listed.getD e.on false = true
theorem getD_set_true' {listed : Array Bool} {i j : Nat} (h : (listed.setIfInBounds i true).getD j false = true) : j = i ∨ listed.getD j false = true := by
  by_cases hij : j = i
  · exact .inl hij
  · exact .inr (by rw [getD_set_ne false (Ne.symm hij)] at h; exact h)
/-- every operation waits for earlier ones alone: asked of the region's own text -/
def lineUp (ops : Array Oper) : Bool := (List.range ops.size).all fun i => (ops.getD i default).after.all fun e => !Region.binds .any e || decide (e.on < i)
theorem all_listed {ops : Array Oper} {listed : Array Bool} (hl : lineUp ops = true) (hsz : listed.size = ops.size) (hr : Region.ready .any ops listed = []) : ∀ i, i < ops.size → listed.getD i false = true := by
  intro i
  induction i using Nat.strongRecOn with
  | _ i ih =>
    intro hi
    cases hf : listed.getD i false with
    | true => rfl
    | false =>
      exfalso
      have hf' : listed.getD i true = false := by
        have : i < listed.size := by omega
        simp [Array.getD, this] at hf ⊢
        exact hf
      have ho : ops[i]? = some ops[i] := by simp [hi]
      have hm : i ∈ Region.ready .any ops listed := mem_ready.2 ⟨hf', ops[i], ho, fun e he hb => by
        have h1 := List.all_eq_true.1 hl i (List.mem_range.2 hi)
        have h2 : (ops.getD i default) = ops[i] := by simp [Array.getD, hi]
        rw [h2] at h1
        have h3 := (Array.all_eq_true_iff_forall_mem.1 h1) e he
        rw [hb] at h3
        have h4 : e.on < i := by simpa using h3
        exact ih e.on h4 (by omega)⟩
      rw [hr] at hm
      cases hm
theorem wpIn_region_inv {ops : Array Oper} {Q : Exit → Act → World → Prop} {id : Nat} {a : Act} {w : World} (hm : P.follows .mixedOrders = true) (hline : lineUp ops = true) (Inv : (Nat → Bool) → Act → World → Prop)
    (h0 : Inv (fun _ => false) a w.drew)
    (hstep : ∀ (d d' : Nat → Bool) (i : Nat) (o : Oper) (a : Act) (w : World), (∀ j u, ops[j]? = some u → d j = true → ∀ e ∈ u.after, Region.binds .any e = true → d e.on = true) → Inv d a w →
      ops[i]? = some o → d i = false → d' i = true → (∀ j, j ≠ i → d' j = d j) → (∀ e ∈ o.after, Region.binds .any e = true → d e.on = true) → wpOpIn F n P ops Q i (Inv d') a w)
    (hend : ∀ (d : Nat → Bool) (a : Act) (w : World), Inv d a w → (∀ i, i < ops.size → d i = true) → Q .normal a w) : (Code.region id ops true).wpIn F n P Q a w := by
  refine wpIn_region_any hm (wpAnyIn_inv (fun listed a w => Ordered ops listed ∧ Inv (fun j => listed.getD j false) a w) ?_ ?_ _ _ _ _ (by simp) ⟨⟨by simp, fun i o _ h => ?_⟩, ?_⟩)
  · rintro listed i a w ⟨hO, hI⟩ hr
    obtain ⟨hf, o, ho, hpre⟩ := mem_ready.1 hr
    obtain ⟨hlt, hfl⟩ := getD_lt hf
    have hsz : i < listed.size := by simpa using hlt
    have hdi : (listed.setIfInBounds i true).getD i false = true := by simp [Array.getD, hsz]
    have hdf : listed.getD i false = false := by simp [Array.getD, hsz]; simpa using hfl
    have hdn : ∀ j, j ≠ i → (listed.setIfInBounds i true).getD j false = listed.getD j false := fun _ h => getD_set_ne false (Ne.symm h)
    refine wpOpIn_mono (fun a' w' h' => ⟨⟨by simpa using hO.1, fun j u hu hj e he hb => ?_⟩, h'⟩) (hstep _ (fun j => (listed.setIfInBounds i true).getD j false) i o a w hO.2 hI ho hdf hdi hdn hpre)
    rcases getD_set_true' hj with rfl | hj'
    · rw [ho] at hu
      cases hu
      exact getD_set_true (hpre e he hb)
    · exact getD_set_true (hO.2 j u hu hj' e he hb)
  · rintro listed a w ⟨hO, hI⟩ hr
    exact hend _ _ _ hI (all_listed hline hO.1 hr)
  · exfalso; revert h; simp [Array.getD]
  · have : (fun j => (Array.replicate ops.size false).getD j false) = fun _ => false := by
      funext j; simp [Array.getD]
    rw [this]
    exact h0

theorem wide_room (n : Nat) : Fence.wide.depth.isSome = true → 1 ≤ n := fun h => by cases h
end Go.Proofs.YtgnpjenpehfjbaaDoor

namespace Go.Proofs.YtgnpjenpehfjbaaDoor
open Go.RowKit

def lo4 (x : BitVec 32) : Nat := (x &&& 15#32).toNat
theorem lo4_lt (x : BitVec 32) : lo4 x < 16 := by
  unfold lo4
  simp only [BitVec.toNat_and]
  have : x.toNat &&& (15#32).toNat ≤ 15 := Nat.and_le_right
  omega
theorem lo4_lt_i (x : BitVec 32) : ((lo4 x : Int) < 16) = True := by
  have := lo4_lt x
  simp only [eq_iff_iff, iff_true]
  omega
theorem bits_and_u32_15 (x : BitVec 32) : bits .and .u32 (b32 x) 15 = ((lo4 x : Nat) : Int) := bits_and_u32 x 15#32
theorem bits_and_u32_1 (x : BitVec 32) : bits .and .u32 (b32 x) 1 = b32 (x &&& 1#32) := bits_and_u32 x 1#32
theorem bits_xor_u32_ones (x : BitVec 32) : bits .xor .u32 (b32 x) 4294967295 = b32 (x ^^^ 4294967295#32) := bits_xor_u32 x 4294967295#32
theorem bits_xor_u32_poly (x : BitVec 32) : bits .xor .u32 (b32 x) 3988292384 = b32 (x ^^^ 3988292384#32) := bits_xor_u32 x 3988292384#32
theorem op_shr_u32_4 (yk : IntKind) (x : BitVec 32) : Op.shift .shr .u32 (b32 x) yk 4 = pure (.int .u32 (b32 (x >>> 4))) := by
  rw [shift_shr_u32 yk _ 4 (by decide) (by decide)]
  congr 2
  unfold b32
  rw [BitVec.toNat_ushiftRight, Nat.shiftRight_eq_div_pow]
  rfl
theorem op_shr_u32_1 (yk : IntKind) (x : BitVec 32) : Op.shift .shr .u32 (b32 x) yk 1 = pure (.int .u32 (b32 (x >>> 1))) := by
  rw [shift_shr_u32 yk _ 1 (by decide) (by decide)]
  exact congrArg (fun n => pure (Value.int .u32 n)) (by unfold b32; rw [BitVec.toNat_ushiftRight, Nat.shiftRight_eq_div_pow]; rfl)
attribute [go_sem] bits_and_u32_15 bits_and_u32_1 bits_xor_u32_ones bits_xor_u32_poly lo4_lt_i
attribute [go_sem high] op_shr_u32_4 op_shr_u32_1

def tabL : List (BitVec 32) := [0x00000000#32, 0x1db71064#32, 0x3b6e20c8#32, 0x26d930ac#32, 0x76dc4190#32, 0x6b6b51f4#32, 0x4db26158#32, 0x5005713c#32,
  0xedb88320#32, 0xf00f9344#32, 0xd6d6a3e8#32, 0xcb61b38c#32, 0x9b64c2b0#32, 0x86d3d2d4#32, 0xa00ae278#32, 0xbdbdf21c#32]
def tab (n : Nat) : BitVec 32 := tabL.getD n 0
def nib (r : BitVec 32) : BitVec 32 := (r >>> 4) ^^^ tab (lo4 r)
def stepB (r : BitVec 32) (x : UInt8) : BitVec 32 := nib (nib (r ^^^ w32 x))
/-- the register behind the bytes l, begun with r -/
def crcR (r : BitVec 32) (l : List UInt8) : BitVec 32 := l.foldl stepB r
def crc (l : List UInt8) : BitVec 32 := crcR 0xffffffff#32 l ^^^ 0xffffffff#32

/-- the table, where the program has it -/
def TabOK (w : World) : Prop := ∀ i, i < 16 → w.cell? ⟨0, i, none⟩ = some (.int .u32 (b32 (tab i)))
theorem TabOK.at {w : World} (ht : TabOK w) (x : BitVec 32) : w.cell? ⟨0, lo4 x, none⟩ = some (.int .u32 (b32 (tab (lo4 x)))) := ht _ (lo4_lt x)
theorem TabOK.lt {w : World} (ht : TabOK w) : 0 < w.heap.size := World.block_lt_of_cell? w ⟨0, 0, none⟩ (ht 0 (by decide))
theorem TabOK.below {w w' : World} {B : Nat} (ht : TabOK w) (hb : Below B w w') (hB : 0 < B) : TabOK w' :=
  fun i hi => (hb.cell (p := ⟨0, i, none⟩) hB).trans (ht i hi)

theorem bits_xor_u32_max (x : BitVec 32) : bits .xor .u32 IntKind.u32.max (b32 x) = b32 (x ^^^ 0xffffffff#32) := by
  rw [BitVec.xor_comm]; exact bits_xor_u32 0xffffffff#32 x
attribute [go_sem] bits_xor_u32_max

theorem crcR_snoc (r : BitVec 32) (l : List UInt8) (k : Nat) (h : k < l.length) : crcR r (l.take (k + 1)) = stepB (crcR r (l.take k)) (l.getD k 0) := by
  unfold crcR
  rw [List.take_succ_eq_append_getElem h, List.foldl_append]
  simp [List.getD, h]

set_option maxHeartbeats 400000 in
theorem seal_Sum (v : Value) (l : List UInt8) (w : World) (B : Nat) (hb : Bts w B v l) (ht : TabOK w) :
    Calls Tryd.prog 64 #[v] w fun e w' => e = .returned (.int .u32 (b32 (crc l))) ∧ w = w' := by
  have ht' := ht.at
  clear ht
  rcases hb.form with ⟨rfl, ao, cap, rfl, _⟩ | ⟨hpos, b, off, cap, rfl, hcap, hm, hbB, hc⟩
  · clear hb
    go_enter Tryd.func64, Tryd.ntmps64
    go_wp2
    refine wp_loop_rounds 1 ?_; rw [rounds_succ]
    go_wp2
    go_ret
    exact ⟨rfl, rfl⟩
  · clear hb
    generalize hn : l.length = n at *
    have HL := Lib.hid hn
    clear hn
    go_enter Tryd.func64, Tryd.ntmps64
    go_wp2
    go_loop [3, 8] (fun r i => ∃ k : Nat, k ≤ n ∧ i = .int .i64 k ∧ r = .int .u32 (b32 (crcR 0xffffffff#32 (l.take k)))) (fun _ i => n - (intOf i).toNat)
    case atStart => exact ⟨0, Nat.zero_le _, rfl, rfl⟩
    case round =>
      obtain ⟨k, hk, rfl, rfl⟩ := hrel
      by_cases hlt : k < n
      · have hck := hc k hlt
        clear hc
        have HS := Lib.hid (crcR_snoc 0xffffffff#32 l k (by rw [HL.out]; exact hlt))
        generalize l.getD k 0 = x at *
        generalize crcR 0xffffffff#32 (l.take k) = r at *
        go_wp2
        go_round
        case rel => exact ⟨k + 1, by omega, by go_num, by rw [HS.out]; rfl⟩
        case measure => simp [intOf]; omega
      · have hkn : k = n := by omega
        go_wp2
        go_ret
        rw [List.take_of_length_le (by rw [HL.out]; omega)]
        exact ⟨rfl, by trivial⟩


def bit8 (x : UInt8) (k : Nat) : Bool := x.toNat.testBit k
def stepBit (s : BitVec 32) (b : Bool) : BitVec 32 := if ((s &&& 1#32) == 1#32) != b then (s >>> 1) ^^^ 3988292384#32 else s >>> 1
def bitsTo (s : BitVec 32) (x : UInt8) : Nat → BitVec 32
  | 0 => s
  | k + 1 => stepBit (bitsTo s x k) (bit8 x k)
def refR (r : BitVec 32) (l : List UInt8) : BitVec 32 := l.foldl (fun s x => bitsTo s x 8) r
theorem refR_snoc (r : BitVec 32) (l : List UInt8) (k : Nat) (h : k < l.length) : refR r (l.take (k + 1)) = bitsTo (refR r (l.take k)) (l.getD k 0) 8 := by
  unfold refR
  rw [List.take_succ_eq_append_getElem h, List.foldl_append]
  simp [List.getD, h]
theorem b32_one (y : BitVec 32) : (b32 y == 1) = (y == 1#32) := by
  rw [Bool.eq_iff_iff, beq_iff_eq, beq_iff_eq]
  constructor
  · intro h; exact b32_inj h
  · intro h; subst h; rfl
theorem bit8_test (x : UInt8) (j : Nat) : (bits .and .u8 ((x.toNat : Int) / 2 ^ j) 1 == 1) = bit8 x j := by
  have h1 : ((x.toNat : Int) / 2 ^ j) = ((x.toNat / 2 ^ j : Nat) : Int) := by norm_cast
  have hlt : x.toNat / 2 ^ j < 256 := Nat.lt_of_le_of_lt (Nat.div_le_self _ _) x.toNat_lt
  have h2 : bits .and .u8 ((x.toNat / 2 ^ j : Nat) : Int) 1 = (((x.toNat / 2 ^ j) % 2 : Nat) : Int) := by
    unfold bits
    have e1 : BitVec.ofInt IntKind.u8.bits ((x.toNat / 2 ^ j : Nat) : Int) = BitVec.ofNat 8 (x.toNat / 2 ^ j) := by
      apply BitVec.eq_of_toNat_eq
      show (BitVec.ofInt 8 ((x.toNat / 2 ^ j : Nat) : Int)).toNat = (BitVec.ofNat 8 (x.toNat / 2 ^ j) : BitVec 8).toNat
      rw [BitVec.toNat_ofInt, BitVec.toNat_ofNat]; omega
    have e2 : BitVec.ofInt IntKind.u8.bits (1 : Int) = BitVec.ofNat 8 1 := rfl
    rw [e1, e2]
    show IntKind.u8.wrap (((BitVec.ofNat 8 (x.toNat / 2 ^ j)) &&& (BitVec.ofNat 8 1)).toNat : Int) = _
    rw [BitVec.toNat_and]
    simp only [BitVec.toNat_ofNat, IntKind.wrap_u8]
    rw [show (1 % 2 ^ 8 : Nat) = 1 from rfl, Nat.and_one_is_mod]
    omega
  rw [h1, h2, bit8, Nat.testBit_eq_decide_div_mod_eq, Bool.eq_iff_iff, beq_iff_eq, decide_eq_true_iff]
  omega
theorem bit_yes {s : BitVec 32} {x : UInt8} {j : Nat} (h : (!(b32 (s &&& 1#32) == 1) == (bits BinOp.and IntKind.u8 ((x.toNat : Int) / 2 ^ j) 1 == 1)) = true) : stepBit s (bit8 x j) = s >>> 1 ^^^ 3988292384#32 := by
  rw [b32_one, bit8_test] at h
  unfold stepBit
  rw [if_pos]
  cases h1 : (s &&& 1#32) == 1#32 <;> cases h2 : bit8 x j <;> simp_all
theorem bit_no {s : BitVec 32} {x : UInt8} {j : Nat} (h : (!(b32 (s &&& 1#32) == 1) == (bits BinOp.and IntKind.u8 ((x.toNat : Int) / 2 ^ j) 1 == 1)) = false) : stepBit s (bit8 x j) = s >>> 1 := by
  rw [b32_one, bit8_test] at h
  unfold stepBit
  rw [if_neg]
  cases h1 : (s &&& 1#32) == 1#32 <;> cases h2 : bit8 x j <;> simp_all
theorem bitsTo_succ (r : BitVec 32) (x : UInt8) (j : Nat) : bitsTo r x (j + 1) = stepBit (bitsTo r x j) (bit8 x j) := rfl
set_option maxHeartbeats 400000 in
theorem ref_Sum0 (v : Value) (l : List UInt8) (w : World) (B : Nat) (hb : Bts w B v l) :
    Calls Tryd.prog 47 #[v] w fun e w' => e = .returned (.int .u32 (b32 (refR 0xffffffff#32 l ^^^ 0xffffffff#32))) ∧ w = w' := by
  rcases hb.form with ⟨rfl, ao, cap, rfl, _⟩ | ⟨hpos, b, off, cap, rfl, hcap, hm, hbB, hc⟩
  · clear hb
    go_enter Tryd.func47, Tryd.ntmps47
    go_wp2
    refine wp_loop_rounds 1 ?_; rw [rounds_succ]
    go_wp2
    go_ret
    exact ⟨rfl, rfl⟩
  · clear hb
    generalize hn : l.length = n at *
    have HL := Lib.hid hn
    clear hn
    go_enter Tryd.func47, Tryd.ntmps47
    go_wp2
    go_loop [3, 4] (fun r i => ∃ k : Nat, k ≤ n ∧ i = .int .i64 k ∧ r = .int .u32 (b32 (refR 0xffffffff#32 (l.take k)))) (fun _ i => n - (intOf i).toNat)
    case atStart => exact ⟨0, Nat.zero_le _, rfl, rfl⟩
    case round =>
      obtain ⟨k, hk, rfl, rfl⟩ := hrel
      by_cases hlt : k < n
      · have hck := hc k hlt
        clear hc
        have HS := Lib.hid (refR_snoc 0xffffffff#32 l k (by rw [HL.out]; exact hlt))
        generalize l.getD k 0 = x at *
        generalize refR 0xffffffff#32 (l.take k) = r at *
        go_wp2
        go_loop [3, 5, 6] (fun s i _ => ∃ j : Nat, j ≤ 8 ∧ i = .int .i64 j ∧ s = .int .u32 (b32 (bitsTo r x j))) (fun _ i _ => 8 - (intOf i).toNat)
        case atStart => exact ⟨0, Nat.zero_le _, rfl, rfl⟩
        case round =>
          obtain ⟨j, hj, rfl, rfl⟩ := hrel
          by_cases hj8 : j < 8
          · have HB := Lib.hid (bitsTo_succ r x j)
            generalize bitsTo r x j = s at *
            go_wp2
            all_goals go_round
            case rel => exact ⟨j + 1, by omega, by go_num, by rw [HB.out, bit_yes (by assumption)]⟩
            case measure => simp [intOf]; omega
            case rel => exact ⟨j + 1, by omega, by go_num, by rw [HB.out, bit_no (by assumption)]⟩
            case measure => simp [intOf]; omega
          · have : j = 8 := by omega
            subst this
            go_wp2
            go_round
            case rel => exact ⟨k + 1, by omega, by go_num, by rw [HS.out]⟩
            case measure => simp [intOf]; omega
      · have hkn : k = n := by omega
        go_wp2
        go_ret
        rw [List.take_of_length_le (by rw [HL.out]; omega)]
        exact ⟨rfl, by trivial⟩

end Go.Proofs.YtgnpjenpehfjbaaDoor

namespace Go.Proofs.YtgnpjenpehfjbaaDoor

/-- one bit out, nothing in -/
def crcL (s : BitVec 32) : BitVec 32 := (s >>> 1) ^^^ (if s.getLsbD 0 then 3988292384#32 else 0#32)

theorem low_beq (s : BitVec 32) : ((s &&& 1#32) == 1#32) = s.getLsbD 0 := by
  rw [Bool.eq_iff_iff, beq_iff_eq]
  constructor
  · intro h
    have := congrArg (fun y => BitVec.getLsbD y 0) h
    simpa using this
  · intro h
    ext i hi
    by_cases h0 : i = 0
    · subst h0
      have : s[0] = true := by rw [← h]; simp
      simp [this]
    · simp [h0]

theorem crcL_xor (a b : BitVec 32) : crcL (a ^^^ b) = crcL a ^^^ crcL b := by
  unfold crcL
  rw [BitVec.ushiftRight_xor_distrib, BitVec.getLsbD_xor]
  generalize a >>> 1 = p
  generalize b >>> 1 = q
  generalize 3988292384#32 = c
  cases a.getLsbD 0 <;> cases b.getLsbD 0 <;> simp
  · rw [BitVec.xor_assoc]
  · rw [BitVec.xor_assoc, BitVec.xor_assoc, BitVec.xor_comm q c]
  · rw [BitVec.xor_assoc, BitVec.xor_comm q c, ← BitVec.xor_assoc c c q, BitVec.xor_self, BitVec.zero_xor]

theorem stepBit_eq (s : BitVec 32) (b : Bool) : stepBit s b = crcL (s ^^^ (if b then 1#32 else 0#32)) := by
  unfold stepBit crcL
  rw [low_beq]
  have h1 : (s ^^^ 1#32) >>> 1 = s >>> 1 := by
    rw [BitVec.ushiftRight_xor_distrib]
    have : (1#32) >>> 1 = 0#32 := rfl
    rw [this]; simp
  cases hs : s.getLsbD 0 <;> cases b
  all_goals
    have hs' : s[0] = _ := hs
    simp [hs', h1]

theorem bitsTo_xor (a b : BitVec 32) (x : UInt8) (k : Nat) : bitsTo (a ^^^ b) x k = (Nat.repeat crcL k a) ^^^ bitsTo b x k := by
  induction k with
  | zero => rfl
  | succ k ih =>
    show stepBit (bitsTo (a ^^^ b) x k) _ = _
    rw [ih, stepBit_eq, BitVec.xor_assoc, crcL_xor]
    show _ = crcL (Nat.repeat crcL k a) ^^^ stepBit (bitsTo b x k) _
    rw [stepBit_eq]

theorem crcL_even (s : BitVec 32) (h : s.getLsbD 0 = false) : crcL s = s >>> 1 := by
  unfold crcL; rw [h]; simp

theorem crcL4_high (r : BitVec 32) : crcL (crcL (crcL (crcL ((r >>> 4) <<< 4)))) = r >>> 4 := by
  have e : ∀ (k : Nat), k < 4 → (((r >>> 4) <<< 4) >>> k).getLsbD 0 = false := by
    intro k hk
    rw [BitVec.getLsbD_ushiftRight]
    simp
    omega
  have h0 := crcL_even ((r >>> 4) <<< 4) (e 0 (by omega))
  have h1 := crcL_even (((r >>> 4) <<< 4) >>> 1) (e 1 (by omega))
  have h2 := crcL_even (((r >>> 4) <<< 4) >>> 1 >>> 1) (by rw [← BitVec.shiftRight_add]; exact e 2 (by omega))
  have h3 := crcL_even (((r >>> 4) <<< 4) >>> 1 >>> 1 >>> 1) (by rw [← BitVec.shiftRight_add, ← BitVec.shiftRight_add]; exact e 3 (by omega))
  rw [h0, h1, h2, h3, ← BitVec.shiftRight_add, ← BitVec.shiftRight_add, ← BitVec.shiftRight_add]
  apply BitVec.eq_of_toNat_eq
  simp only [BitVec.toNat_ushiftRight, BitVec.toNat_shiftLeft, Nat.shiftRight_eq_div_pow, Nat.shiftLeft_eq]
  have := r.isLt
  omega

theorem split4 (r : BitVec 32) : r = ((r >>> 4) <<< 4) ^^^ (r &&& 15#32) := by
  ext i hi
  have h15 : ∀ i, i < 32 → (15#32)[i]! = decide (i < 4) := by decide
  have := h15 i hi
  simp only [hi, getElem!_pos] at this
  simp [this]
  by_cases h : i < 4
  · simp [h]
  · simp [h, show 4 + (i - 4) = i by omega, hi]

theorem low16 : ∀ n, n < 16 → crcL (crcL (crcL (crcL (BitVec.ofNat 32 n)))) = tab n := by decide

theorem nib_eq (r : BitVec 32) : nib r = crcL (crcL (crcL (crcL r))) := by
  have h := low16 (lo4 r) (lo4_lt r)
  have hr : r &&& 15#32 = BitVec.ofNat 32 (lo4 r) := by unfold lo4; simp
  conv => rhs; rw [split4 r]
  rw [crcL_xor, crcL_xor, crcL_xor, crcL_xor, crcL4_high, hr, h]
  rfl

theorem byte_steps : ∀ x : Fin 256, bitsTo 0#32 (UInt8.ofFin x) 8 = Nat.repeat crcL 8 (w32 (UInt8.ofFin x)) := by decide +kernel

theorem stepB_eq (r : BitVec 32) (x : UInt8) : bitsTo r x 8 = stepB r x := by
  have h := bitsTo_xor r 0#32 x 8
  rw [BitVec.xor_zero] at h
  rw [h]
  have hb : bitsTo 0#32 x 8 = Nat.repeat crcL 8 (w32 x) := by
    have := byte_steps x.toFin
    simpa using this
  rw [hb]
  unfold stepB
  rw [nib_eq (nib _), nib_eq]
  show crcL (crcL (crcL (crcL (crcL (crcL (crcL (crcL r))))))) ^^^ crcL (crcL (crcL (crcL (crcL (crcL (crcL (crcL (w32 x)))))))) = _
  simp only [crcL_xor]

theorem refR_eq (r : BitVec 32) (l : List UInt8) : refR r l = crcR r l := by
  unfold refR crcR
  congr 1
  funext s x
  exact stepB_eq s x

theorem ref_Sum (v : Value) (l : List UInt8) (w : World) (B : Nat) (hb : Bts w B v l) :
    Calls Tryd.prog 47 #[v] w fun e w' => e = .returned (.int .u32 (b32 (crc l))) ∧ w = w' := by
  have h := ref_Sum0 v l w B hb
  rw [refR_eq] at h
  exact h

end Go.Proofs.YtgnpjenpehfjbaaDoor

namespace Go.Proofs.YtgnpjenpehfjbaaDoor
open Go.RowKit

def len2 (n : Nat) : List UInt8 := [UInt8.ofNat (n % 256), UInt8.ofNat (n / 256)]
def le32 (s : BitVec 32) : List UInt8 := [UInt8.ofNat (s.toNat % 256), UInt8.ofNat (s.toNat / 256 % 256), UInt8.ofNat (s.toNat / 65536 % 256), UInt8.ofNat (s.toNat / 16777216)]
def frameOf (body : List UInt8) : List UInt8 := [237, 91] ++ len2 body.length ++ body ++ le32 (crc (len2 body.length ++ body))

theorem byte_of (m : Nat) (h : m < 256) : ((UInt8.ofNat m).toNat : Int) = (m : Int) := by simp; omega
theorem lit4 (c0 c1 c2 c3 : UInt8) (i : Nat) (hi : i < 4) : (#[Value.int .u8 (c0.toNat : Int), .int .u8 (c1.toNat : Int), .int .u8 (c2.toNat : Int), .int .u8 (c3.toNat : Int)])[i]? = some (.int .u8 (([c0, c1, c2, c3].getD i 0).toNat : Int)) := by
  match i, hi with
  | 0, _ => rfl
  | 1, _ => rfl
  | 2, _ => rfl
  | 3, _ => rfl

set_option maxRecDepth 100000 in
set_option maxHeartbeats 1000000 in
theorem seal_Seal (v : Value) (l : List UInt8) (w : World) (B : Nat) (hb : Bts w B v l) (ht : TabOK w) (hB : B ≤ w.heap.size) (hs : l.length ≤ 65535) :
    Calls Tryd.prog 36 #[v] w fun e w' => ∃ v', e = .returned (.tuple #[v', .int .i64 0]) ∧ Own w' w.heap.size v' (frameOf l) ∧ Below w.heap.size w w' := by
  obtain ⟨ao, cap, hv, _⟩ := id hb
  subst hv
  generalize hn : l.length = n at *
  have HL := Lib.hid hn
  clear hn
  obtain ⟨i0, hi, hz0, hz1, hz2⟩ := info_parts info_u8
  obtain ⟨c2, hc2⟩ : ∃ c2 : UInt8, (n : Int) % 256 = (c2.toNat : Int) := ⟨UInt8.ofNat (n % 256), by rw [byte_of _ (by omega)]; omega⟩
  obtain ⟨c3, hc3⟩ : ∃ c3 : UInt8, (n : Int) / 256 = (c3.toNat : Int) := ⟨UInt8.ofNat (n / 256), by rw [byte_of _ (by omega)]; omega⟩
  go_enter Tryd.func36, Tryd.ntmps36
  go_wp2_with (at_make; refine wpList_make_own _ rfl _ _ 27 rfl w.heap.size 5 i0 (.int .u8 0) 1 Tryd.underlying27 hi hz0 hz1 _ _ _ (n + 8) rfl rfl (by omega) (by rw [hz2]; omega) (by unfold maxLen; omega) (by omega) ?_)
  intro w1 hown hgrow
  have hsz1 := hgrow.size
  have hown1 : Own (w1.alloc (.cells #[.int .u8 ((237 : UInt8).toNat : Int), .int .u8 ((91 : UInt8).toNat : Int), .int .u8 (c2.toNat : Int), .int .u8 (c3.toNat : Int)] 5)) w.heap.size (.slice (some ⟨w.heap.size, 0, none⟩) 0 (n + 8)) [] := hown.alloc _
  go_wp2_with (at_builtin; (refine wpList_append_bts rfl _ _ rfl w.heap.size _ [] rfl hown1 _ [237, 91, c2, c3] (w1.heap.size + 1) rfl ((Bts.lit _ w1.heap.size _ 5 (0, 0) [237, 91, c2, c3] 4 4 (heap_alloc_new w1 _) rfl (by omega) (by decide) (lit4 237 91 c2 c3)).mono (by simp)) (by simp) (by simp; omega) ?_))
  intro v2 w2 hown2 hg2 hne2
  have hB2 : Below w.heap.size w w2 := (((Below.refl w.heap.size w).grown hgrow (Nat.le_refl _) (fun k hk => by cases hk)).alloc hsz1 _).grown hg2 (by simp; omega) (fun k hk => by cases hk; exact Nat.le_refl _)
  have hb2 : Bts w2 B (.slice ao n cap) l := hb.below (hB2.mono hB) (Nat.le_refl _)
  clear hown1 hown hgrow hg2
  have hsz2 := hB2.size
  go_wp2_with (at_builtin; (refine wpList_append_bts rfl _ _ rfl w.heap.size _ [237, 91, c2, c3] rfl hown2 _ l B rfl hb2 (by rw [HL.out]; simp; omega) (by omega) ?_))
  intro v3 w3 hown3 hg3 hne3
  have hB3 : Below w.heap.size w w3 := hB2.grown hg3 (by omega) (fun k hk => (hown2.lt k hk).1)
  have hsz3 := hB3.size
  have ht3 : TabOK w3 := ht.below hB3 ht.lt
  obtain ⟨v4, hb4, hrun4⟩ := hown3.bts.fromB 2 (by simp)
  clear hown2 hg3 hb2 ht
  have hb4' : Bts w3 w3.heap.size v4 (c2 :: c3 :: l) := hb4
  have hrun : ∀ (W : World) (kl : IntKind), (Instr.slice 27 v3 (some (.int kl 2)) none none).run Tryd.prog W = .ok v4 W := hrun4
  clear hrun4 hb4
  generalize hcrc : crc (c2 :: c3 :: l) = sm at *
  have HC := Lib.hid hcrc
  clear hcrc
  have e0 : b32 sm % 256 = ((UInt8.ofNat (sm.toNat % 256)).toNat : Int) := by rw [byte_of _ (by omega)]; unfold b32; omega
  have e1 : b32 sm / 256 % 256 = ((UInt8.ofNat (sm.toNat / 256 % 256)).toNat : Int) := by rw [byte_of _ (by omega)]; unfold b32; omega
  have e2 : b32 sm / 65536 % 256 = ((UInt8.ofNat (sm.toNat / 65536 % 256)).toNat : Int) := by rw [byte_of _ (by omega)]; unfold b32; omega
  have e3 : b32 sm / 16777216 % 256 = ((UInt8.ofNat (sm.toNat / 16777216)).toNat : Int) := by have := sm.isLt; rw [byte_of _ (by omega)]; unfold b32; omega
  have HF : Hid (frameOf l = 237 :: 91 :: c2 :: c3 :: l ++ le32 sm) := Lib.hid (by
    have f2 : UInt8.ofNat (n % 256) = c2 := by
      apply UInt8.toNat_inj.1
      have := byte_of (n % 256) (by omega)
      omega
    have f3 : UInt8.ofNat (n / 256) = c3 := by
      apply UInt8.toNat_inj.1
      have := byte_of (n / 256) (by omega)
      omega
    unfold frameOf len2
    rw [HL.out, f2, f3, ← HC.out]
    rfl)
  unfold le32 at HF
  generalize UInt8.ofNat (sm.toNat % 256) = d0 at *
  generalize UInt8.ofNat (sm.toNat / 256 % 256) = d1 at *
  generalize UInt8.ofNat (sm.toNat / 65536 % 256) = d2 at *
  generalize UInt8.ofNat (sm.toNat / 16777216) = d3 at *
  have hsc := HC.out
  have hsum := fun W => fun (h1 : Bts W w3.heap.size v4 (c2 :: c3 :: l)) (h2 : TabOK W) => hsc ▸ seal_Sum v4 (c2 :: c3 :: l) W w3.heap.size h1 h2
  clear hsc
  have hown4 : Own (w3.alloc (.cells #[.int .u8 (d0.toNat : Int), .int .u8 (d1.toNat : Int), .int .u8 (d2.toNat : Int), .int .u8 (d3.toNat : Int)] 5)) w.heap.size v3 (237 :: 91 :: c2 :: c3 :: l) := World.ownsRow.alloc hown3 _
  go_wp2_with (first
    | (go_at_call 64; refine (hsum _ hb4' ht3).mono ?_; rintro e w' ⟨rfl, rfl⟩)
    | (at_builtin; (refine wpList_append_bts rfl _ _ rfl w.heap.size _ (237 :: 91 :: c2 :: c3 :: l) rfl hown4 _ [d0, d1, d2, d3] (w3.heap.size + 1) rfl ((Bts.lit _ w3.heap.size _ 5 (0, 0) [d0, d1, d2, d3] 4 4 (heap_alloc_new w3 _) rfl (by omega) (by decide) (lit4 d0 d1 d2 d3)).mono (by simp)) (by have := HL.out; simp; omega) (by simp; omega) ?_)))
  intro v5 w5 hown5 hg5 hne5
  go_wp2
  go_ret2
  refine ⟨v5, rfl, ?_, ?_⟩
  · rw [HF.out]; exact hown5
  · exact ((hB3.alloc hsz3 _).grown hg5 (by simp; omega) (fun k hk => (hown3.lt k hk).1))

set_option maxRecDepth 100000 in
set_option maxHeartbeats 1000000 in
theorem ref_Seal (v : Value) (l : List UInt8) (w : World) (B : Nat) (hb : Bts w B v l) (hB : B ≤ w.heap.size) (hs : l.length ≤ 65535) :
    Calls Tryd.prog 24 #[v] w fun e w' => ∃ v', e = .returned (.tuple #[v', .int .i64 0]) ∧ Own w' w.heap.size v' (frameOf l) ∧ Below w.heap.size w w' := by
  obtain ⟨ao, cap, hv, _⟩ := id hb
  subst hv
  generalize hn : l.length = n at *
  have HL := Lib.hid hn
  clear hn
  obtain ⟨c2, hc2⟩ : ∃ c2 : UInt8, (n : Int) % 256 = (c2.toNat : Int) := ⟨UInt8.ofNat (n % 256), by rw [byte_of _ (by omega)]; omega⟩
  obtain ⟨c3, hc3⟩ : ∃ c3 : UInt8, (n : Int) / 256 = (c3.toNat : Int) := ⟨UInt8.ofNat (n / 256), by rw [byte_of _ (by omega)]; omega⟩
  go_enter Tryd.func24, Tryd.ntmps24
  have hown2 : Own (w.alloc (.cells #[.int .u8 ((237 : UInt8).toNat : Int), .int .u8 ((91 : UInt8).toNat : Int), .int .u8 (c2.toNat : Int), .int .u8 (c3.toNat : Int)] 5)) w.heap.size (.slice (some ⟨w.heap.size, 0, none⟩) 4 4) [237, 91, c2, c3] :=
    World.ownsRow_lit w _ 4 (Nat.le_refl _) (by decide) rfl
  have hB2 : Below w.heap.size w (w.alloc (.cells #[.int .u8 ((237 : UInt8).toNat : Int), .int .u8 ((91 : UInt8).toNat : Int), .int .u8 (c2.toNat : Int), .int .u8 (c3.toNat : Int)] 5)) := (Below.refl _ _).alloc (Nat.le_refl _) _
  have hb2 : Bts (w.alloc (.cells #[.int .u8 ((237 : UInt8).toNat : Int), .int .u8 ((91 : UInt8).toNat : Int), .int .u8 (c2.toNat : Int), .int .u8 (c3.toNat : Int)] 5)) B (.slice ao n cap) l := hb.below (hB2.mono hB) (Nat.le_refl _)
  have hsz2 := hB2.size
  go_wp2_with (at_builtin; (refine wpList_append_bts rfl _ _ rfl w.heap.size _ [237, 91, c2, c3] rfl hown2 _ l B rfl hb2 (by rw [HL.out]; simp; omega) (by simp) ?_))
  intro v3 w3 hown3 hg3 hne3
  have hB3 : Below w.heap.size w w3 := hB2.grown hg3 (by simp) (fun k hk => (hown2.lt k hk).1)
  have hsz3 := hB3.size
  obtain ⟨v4, hb4, hrun4⟩ := hown3.bts.fromB 2 (by simp)
  clear hown2 hg3 hb2
  have hb4' : Bts w3 w3.heap.size v4 (c2 :: c3 :: l) := hb4
  have hrun : ∀ (W : World) (kl : IntKind), (Instr.slice 27 v3 (some (.int kl 2)) none none).run Tryd.prog W = .ok v4 W := hrun4
  clear hrun4 hb4
  generalize hcrc : crc (c2 :: c3 :: l) = sm at *
  have HC := Lib.hid hcrc
  clear hcrc
  have e0 : b32 sm % 256 = ((UInt8.ofNat (sm.toNat % 256)).toNat : Int) := by rw [byte_of _ (by omega)]; unfold b32; omega
  have e1 : b32 sm / 256 % 256 = ((UInt8.ofNat (sm.toNat / 256 % 256)).toNat : Int) := by rw [byte_of _ (by omega)]; unfold b32; omega
  have e2 : b32 sm / 65536 % 256 = ((UInt8.ofNat (sm.toNat / 65536 % 256)).toNat : Int) := by rw [byte_of _ (by omega)]; unfold b32; omega
  have e3 : b32 sm / 16777216 % 256 = ((UInt8.ofNat (sm.toNat / 16777216)).toNat : Int) := by have := sm.isLt; rw [byte_of _ (by omega)]; unfold b32; omega
  have HF : Hid (frameOf l = 237 :: 91 :: c2 :: c3 :: l ++ le32 sm) := Lib.hid (by
    have f2 : UInt8.ofNat (n % 256) = c2 := by
      apply UInt8.toNat_inj.1
      have := byte_of (n % 256) (by omega)
      omega
    have f3 : UInt8.ofNat (n / 256) = c3 := by
      apply UInt8.toNat_inj.1
      have := byte_of (n / 256) (by omega)
      omega
    unfold frameOf len2
    rw [HL.out, f2, f3, ← HC.out]
    rfl)
  unfold le32 at HF
  generalize UInt8.ofNat (sm.toNat % 256) = d0 at *
  generalize UInt8.ofNat (sm.toNat / 256 % 256) = d1 at *
  generalize UInt8.ofNat (sm.toNat / 65536 % 256) = d2 at *
  generalize UInt8.ofNat (sm.toNat / 16777216) = d3 at *
  have hsc := HC.out
  have hsum := fun W => fun (h1 : Bts W w3.heap.size v4 (c2 :: c3 :: l)) => hsc ▸ ref_Sum v4 (c2 :: c3 :: l) W w3.heap.size h1
  clear hsc
  have hown4 : Own (w3.alloc (.cells #[.int .u8 (d0.toNat : Int), .int .u8 (d1.toNat : Int), .int .u8 (d2.toNat : Int), .int .u8 (d3.toNat : Int)] 5)) w.heap.size v3 (237 :: 91 :: c2 :: c3 :: l) := World.ownsRow.alloc hown3 _
  go_wp2_with (first
    | (go_at_call 47; refine (hsum _ hb4').mono ?_; rintro e w' ⟨rfl, rfl⟩)
    | (at_builtin; (refine wpList_append_bts rfl _ _ rfl w.heap.size _ (237 :: 91 :: c2 :: c3 :: l) rfl hown4 _ [d0, d1, d2, d3] (w3.heap.size + 1) rfl ((Bts.lit _ w3.heap.size _ 5 (0, 0) [d0, d1, d2, d3] 4 4 (heap_alloc_new w3 _) rfl (by omega) (by decide) (lit4 d0 d1 d2 d3)).mono (by simp)) (by have := HL.out; simp; omega) (by simp; omega) ?_)))
  intro v5 w5 hown5 hg5 hne5
  go_wp2
  go_ret2
  refine ⟨v5, rfl, ?_, ?_⟩
  · rw [HF.out]; exact hown5
  · exact ((hB3.alloc hsz3 _).grown hg5 (by simp; omega) (fun k hk => (hown3.lt k hk).1))


set_option maxRecDepth 100000 in
theorem ref_Seal_long (v : Value) (l : List UInt8) (w : World) (B : Nat) (hb : Bts w B v l) (hs : 65535 < l.length) :
    Calls Tryd.prog 24 #[v] w fun e w' => e = .returned (.tuple #[.slice none 0 0, .int .i64 23]) ∧ w = w' := by
  obtain ⟨ao, cap, hv, _⟩ := id hb
  subst hv
  have hm := hb.len
  generalize l.length = n at *
  go_enter Tryd.func24, Tryd.ntmps24
  go_wp2
  go_ret2
  exact ⟨rfl, by trivial⟩

end Go.Proofs.YtgnpjenpehfjbaaDoor

namespace Go.Proofs.YtgnpjenpehfjbaaDoor
open Go.RowKit

def rd32 (c0 c1 c2 c3 : UInt8) : BitVec 32 := w32 c0 ||| w32 c1 <<< 8 ||| w32 c2 <<< 16 ||| w32 c3 <<< 24
def badForm (l : List UInt8) : Prop := (0 < l.length ∧ l.getD 0 0 ≠ 237) ∨ (1 < l.length ∧ l.getD 1 0 ≠ 91)
instance (l : List UInt8) : Decidable (badForm l) := by unfold badForm; infer_instance
def bodyLen (l : List UInt8) : Nat := (l.getD 2 0).toNat + 256 * (l.getD 3 0).toNat
def sumAt (l : List UInt8) (k : Nat) : BitVec 32 := rd32 (l.getD k 0) (l.getD (k + 1) 0) (l.getD (k + 2) 0) (l.getD (k + 3) 0)
/-- body, length, error -/
def openF (l : List UInt8) : List UInt8 × Nat × Nat :=
  if badForm l then ([], 0, 20)
  else if l.length < 4 then ([], 0, 21)
  else if l.length < bodyLen l + 8 then ([], 0, 21)
  else if crc ((l.take (4 + bodyLen l)).drop 2) ≠ sumAt l (4 + bodyLen l) then ([], 0, 22)
  else ((l.take (4 + bodyLen l)).drop 4, bodyLen l + 8, 0)

theorem ne_test' (c : UInt8) (d : UInt8) (h : c ≠ d) : ((c.toNat : Int) != (d.toNat : Int)) = true := by
  rw [bne_iff_ne]; intro h2; exact h (UInt8.toNat_inj.1 (by omega))
theorem cell_is {w : World} {a : Addr} {c : UInt8} (h : w.cell? a = some (.int .u8 (c.toNat : Int))) (d : UInt8) (e : c = d) : w.cell? a = some (.int .u8 (d.toNat : Int)) := by rw [h, e]
/-- the forms that are refused at once -/
theorem open_bad (w : World) (b off n cap : Nat) (l : List UInt8) (hl : l.length = n) (hn : n ≤ 9223372036854775807) (hc : ∀ i, i < n → w.cell? ⟨b, off + i, none⟩ = some (.int .u8 ((l.getD i 0).toNat : Int))) (hbad : badForm l) :
    Calls Tryd.prog 43 #[.slice (some ⟨b, off, none⟩) n cap] w fun e w' => e = .returned (.tuple #[.slice none 0 0, .int .i64 0, .int .i64 20]) ∧ w = w' := by
  unfold badForm at hbad
  rw [hl] at hbad
  clear hl
  by_cases h0 : 0 < n ∧ l.getD 0 0 ≠ 237
  · have hc0 : w.cell? ⟨b, off, none⟩ = _ := hc 0 h0.1
    have hne : (((l.getD 0 0).toNat : Int) != 237) = true := ne_test' _ 237 h0.2
    have hpos := h0.1
    clear hbad h0 hc
    generalize l.getD 0 0 = c0 at *
    go_enter Tryd.func43, Tryd.ntmps43
    go_wp2
    go_ret3
    exact ⟨rfl, by trivial⟩
  · rcases hbad with h | ⟨h1, h2⟩
    · exact absurd h h0
    have h3 : l.getD 0 0 = 237 := by
      by_cases hh : l.getD 0 0 = 237
      · exact hh
      · exact absurd ⟨by omega, hh⟩ h0
    have hc0 : w.cell? ⟨b, off, none⟩ = some (.int .u8 237) := cell_is (hc 0 (by omega)) 237 h3
    have hc1 : w.cell? ⟨b, off + 1, none⟩ = _ := hc 1 (by omega)
    have hne : (((l.getD 1 0).toNat : Int) != 91) = true := ne_test' _ 91 h2
    clear h0 hc h3 h2
    generalize l.getD 1 0 = c1 at *
    go_enter Tryd.func43, Tryd.ntmps43
    go_wp2
    go_ret3
    exact ⟨rfl, by trivial⟩


/-- too short for a mark and a length -/
theorem open_short (w : World) (ao : Option Addr) (n cap : Nat) (l : List UInt8) (hl : l.length = n)
    (hcc : 0 < n → ∃ b off, ao = some ⟨b, off, none⟩ ∧ ∀ i, i < n → w.cell? ⟨b, off + i, none⟩ = some (.int .u8 ((l.getD i 0).toNat : Int))) (hgood : ¬ badForm l) (h4 : n < 4) :
    Calls Tryd.prog 43 #[.slice ao n cap] w fun e w' => e = .returned (.tuple #[.slice none 0 0, .int .i64 0, .int .i64 21]) ∧ w = w' := by
  unfold badForm at hgood
  rw [hl] at hgood
  clear hl
  by_cases h0 : 0 < n
  · obtain ⟨b, off, rfl, hc⟩ := hcc h0
    have e0 : l.getD 0 0 = 237 := by
      by_cases hh : l.getD 0 0 = 237
      · exact hh
      · exact absurd (.inl ⟨by omega, hh⟩) hgood
    have hc0 : w.cell? ⟨b, off, none⟩ = some (.int .u8 237) := cell_is (hc 0 (by omega)) 237 e0
    by_cases h1 : 1 < n
    · have e1 : l.getD 1 0 = 91 := by
        by_cases hh : l.getD 1 0 = 91
        · exact hh
        · exact absurd (.inr ⟨by omega, hh⟩) hgood
      have hc1 : w.cell? ⟨b, off + 1, none⟩ = some (.int .u8 91) := cell_is (hc 1 (by omega)) 91 e1
      clear hc hcc e0 e1 hgood
      go_enter Tryd.func43, Tryd.ntmps43
      go_wp2
      go_ret3
      exact ⟨rfl, by trivial⟩
    · clear hc hcc e0 hgood
      go_enter Tryd.func43, Tryd.ntmps43
      go_wp2
      go_ret3
      exact ⟨rfl, by trivial⟩
  · obtain rfl : n = 0 := by omega
    clear hcc hgood
    go_enter Tryd.func43, Tryd.ntmps43
    go_wp2
    go_ret3
    exact ⟨rfl, by trivial⟩

theorem len_or (c2 c3 : UInt8) : bits .or .i64 (c2.toNat : Int) ((c3.toNat : Int) * 256) = ((c2.toNat + 256 * c3.toNat : Nat) : Int) := by
  have h2 := c2.toNat_lt
  have h3 := c3.toNat_lt
  rw [show ((c3.toNat : Int) * 256) = ((c3.toNat * 256 : Nat) : Int) by omega, bits_or_i64 _ _ (by omega) (by omega), or_byte _ _ (by omega)]

/-- what the length says is not there -/
theorem open_cutoff (w : World) (b off n cap : Nat) (l : List UInt8) (hl : l.length = n) (hn : n ≤ 9223372036854775807)
    (hc : ∀ i, i < n → w.cell? ⟨b, off + i, none⟩ = some (.int .u8 ((l.getD i 0).toNat : Int))) (hgood : ¬ badForm l) (h4 : 4 ≤ n) (hlen : n < bodyLen l + 8) :
    Calls Tryd.prog 43 #[.slice (some ⟨b, off, none⟩) n cap] w fun e w' => e = .returned (.tuple #[.slice none 0 0, .int .i64 0, .int .i64 21]) ∧ ∃ k, w' = w.drewN k := by
  unfold badForm at hgood
  rw [hl] at hgood
  clear hl
  have e0 : l.getD 0 0 = 237 := by
    by_cases hh : l.getD 0 0 = 237
    · exact hh
    · exact absurd (.inl ⟨by omega, hh⟩) hgood
  have hc0 : w.cell? ⟨b, off, none⟩ = some (.int .u8 237) := cell_is (hc 0 (by omega)) 237 e0
  have e1 : l.getD 1 0 = 91 := by
    by_cases hh : l.getD 1 0 = 91
    · exact hh
    · exact absurd (.inr ⟨by omega, hh⟩) hgood
  have hc1 : w.cell? ⟨b, off + 1, none⟩ = some (.int .u8 91) := cell_is (hc 1 (by omega)) 91 e1
  have hc2 : w.cell? ⟨b, off + 2, none⟩ = _ := hc 2 (by omega)
  have hc3 : w.cell? ⟨b, off + 3, none⟩ = _ := hc 3 (by omega)
  clear hc e0 e1 hgood
  unfold bodyLen at hlen
  generalize l.getD 2 0 = c2 at *
  generalize l.getD 3 0 = c3 at *
  have hor := len_or c2 c3
  have h2 := c2.toNat_lt
  have h3 := c3.toNat_lt
  have hb1 : c2.toNat + 256 * c3.toNat < 65536 := by omega
  generalize c2.toNat + 256 * c3.toNat = N at *
  go_enter Tryd.func43, Tryd.ntmps43
  go_wp2
  go_quiet (fail)
  go_wp2
  go_ret3
  exact ⟨rfl, _, rfl⟩


theorem shl8 (yk : IntKind) (c : UInt8) : Op.shift .shl .u32 (c.toNat : Int) yk 8 = pure (.int .u32 (b32 (w32 c <<< 8))) := by
  rw [shift_shl_u32 yk _ 8 (by decide) (by decide), show ((2 : Int) ^ Int.toNat 8) = 256 from rfl]
  have := c.toNat_lt
  refine congrArg (fun n => pure (Value.int .u32 n)) ?_
  unfold b32 w32
  rw [BitVec.toNat_shiftLeft, Nat.shiftLeft_eq, BitVec.toNat_ofNat, show (2 : Nat) ^ 8 = 256 from rfl]
  simp only [IntKind.wrap_u32]
  omega
theorem shl16 (yk : IntKind) (c : UInt8) : Op.shift .shl .u32 (c.toNat : Int) yk 16 = pure (.int .u32 (b32 (w32 c <<< 16))) := by
  rw [shift_shl_u32 yk _ 16 (by decide) (by decide), show ((2 : Int) ^ Int.toNat 16) = 65536 from rfl]
  have := c.toNat_lt
  refine congrArg (fun n => pure (Value.int .u32 n)) ?_
  unfold b32 w32
  rw [BitVec.toNat_shiftLeft, Nat.shiftLeft_eq, BitVec.toNat_ofNat, show (2 : Nat) ^ 16 = 65536 from rfl]
  simp only [IntKind.wrap_u32]
  omega
theorem shl24 (yk : IntKind) (c : UInt8) : Op.shift .shl .u32 (c.toNat : Int) yk 24 = pure (.int .u32 (b32 (w32 c <<< 24))) := by
  rw [shift_shl_u32 yk _ 24 (by decide) (by decide), show ((2 : Int) ^ Int.toNat 24) = 16777216 from rfl]
  have := c.toNat_lt
  refine congrArg (fun n => pure (Value.int .u32 n)) ?_
  unfold b32 w32
  rw [BitVec.toNat_shiftLeft, Nat.shiftLeft_eq, BitVec.toNat_ofNat, show (2 : Nat) ^ 24 = 16777216 from rfl]
  simp only [IntKind.wrap_u32]
  omega
theorem bits_or_u8_u32 (c : UInt8) (y : BitVec 32) : bits .or .u32 (c.toNat : Int) (b32 y) = b32 (w32 c ||| y) := by
  rw [← w32_toNat]; exact bits_or_u32 _ _
attribute [go_sem high] shl8 shl16 shl24
attribute [go_sem] bits_or_u8_u32

/-- the whole frame is there -/
theorem open_whole (w : World) (b off n cap : Nat) (l : List UInt8) (hl : l.length = n) (hn : n ≤ 9223372036854775807) (hcap : n ≤ cap) (hbw : b < w.heap.size) (ht : TabOK w)
    (hc : ∀ i, i < n → w.cell? ⟨b, off + i, none⟩ = some (.int .u8 ((l.getD i 0).toNat : Int))) (hgood : ¬ badForm l) (h4 : 4 ≤ n) (hlen : bodyLen l + 8 ≤ n) :
    Calls Tryd.prog 43 #[.slice (some ⟨b, off, none⟩) n cap] w fun e w' => ∃ v', e = .returned (.tuple #[v', .int .i64 ((openF l).2.1 : Int), .int .i64 ((openF l).2.2 : Int)]) ∧ Own w' w.heap.size v' (openF l).1 ∧ Below w.heap.size w w' := by
  have hb : Bts w w.heap.size (.slice (some ⟨b, off, none⟩) n cap) l := ⟨_, _, by rw [hl], by omega, by unfold maxLen; omega, fun h => by (cases h), fun _ => ⟨b, off, rfl, hbw, by rw [hl]; exact hc⟩⟩
  have hF : openF l = if crc ((l.take (4 + bodyLen l)).drop 2) ≠ sumAt l (4 + bodyLen l) then ([], 0, 22) else ((l.take (4 + bodyLen l)).drop 4, bodyLen l + 8, 0) := by
    unfold openF
    rw [if_neg hgood, if_neg (by omega), if_neg (by omega)]
  obtain ⟨v1, hv1, hr1⟩ := hb.cutB 2 (4 + bodyLen l) (by omega) (by omega)
  obtain ⟨v2, hv2, hr2⟩ := hb.cutB 4 (4 + bodyLen l) (by omega) (by omega)
  unfold badForm at hgood
  rw [hl] at hgood
  have e0 : l.getD 0 0 = 237 := by
    by_cases hh : l.getD 0 0 = 237
    · exact hh
    · exact absurd (.inl ⟨by omega, hh⟩) hgood
  have hc0 : w.cell? ⟨b, off, none⟩ = some (.int .u8 237) := cell_is (hc 0 (by omega)) 237 e0
  have e1 : l.getD 1 0 = 91 := by
    by_cases hh : l.getD 1 0 = 91
    · exact hh
    · exact absurd (.inr ⟨by omega, hh⟩) hgood
  have hc1 : w.cell? ⟨b, off + 1, none⟩ = some (.int .u8 91) := cell_is (hc 1 (by omega)) 91 e1
  have hc2 : w.cell? ⟨b, off + 2, none⟩ = _ := hc 2 (by omega)
  have hc3 : w.cell? ⟨b, off + 3, none⟩ = _ := hc 3 (by omega)
  have hor := len_or (l.getD 2 0) (l.getD 3 0)
  have h2 := (l.getD 2 0).toNat_lt
  have h3 := (l.getD 3 0).toNat_lt
  have hN : bodyLen l = (l.getD 2 0).toNat + 256 * (l.getD 3 0).toNat := rfl
  have hb1 : bodyLen l < 65536 := by omega
  rw [← hN] at hor
  have hs0 : w.cell? ⟨b, off + (4 + bodyLen l), none⟩ = _ := hc (4 + bodyLen l) (by omega)
  have hs1 : w.cell? ⟨b, off + (4 + bodyLen l + 1), none⟩ = _ := hc (4 + bodyLen l + 1) (by omega)
  have hs2 : w.cell? ⟨b, off + (4 + bodyLen l + 2), none⟩ = _ := hc (4 + bodyLen l + 2) (by omega)
  have hs3 : w.cell? ⟨b, off + (4 + bodyLen l + 3), none⟩ = _ := hc (4 + bodyLen l + 3) (by omega)
  have hsum : sumAt l (4 + bodyLen l) = _ := rfl
  unfold sumAt at hsum
  clear hc e0 e1 hgood hN hb
  rw [hF]
  clear hF
  unfold sumAt
  generalize l.getD 2 0 = c2 at *
  generalize l.getD 3 0 = c3 at *
  generalize bodyLen l = N at *
  generalize l.getD (4 + N) 0 = s0 at *
  generalize l.getD (4 + N + 1) 0 = s1 at *
  generalize l.getD (4 + N + 2) 0 = s2 at *
  generalize l.getD (4 + N + 3) 0 = s3 at *
  have H1 := Lib.hid hr1
  have H2 := Lib.hid hr2
  have HL := Lib.hid hl
  clear hl hsum hr1 hr2
  by_cases hsm : crc (List.drop 2 (List.take (4 + N) l)) = rd32 s0 s1 s2 s3
  · rw [if_neg (by simpa using hsm)]
    have hne : (b32 (crc (List.drop 2 (List.take (4 + N) l))) != b32 (w32 s0 ||| w32 s1 <<< 8 ||| w32 s2 <<< 16 ||| w32 s3 <<< 24)) = false := by rw [hsm]; simp [rd32]
    clear hsm
    generalize List.drop 2 (List.take (4 + N) l) = m1 at *
    have hm2 : (List.drop 4 (List.take (4 + N) l)).length ≤ 65536 := by simp; omega
    generalize List.drop 4 (List.take (4 + N) l) = m2 at *
    go_enter Tryd.func43, Tryd.ntmps43
    go_wp2
    go_quiet (fail)
    go_wp2
    go_quiet (fail)
    have hr1 : ∀ (W : World) (kl kh : IntKind), (Instr.slice 27 (.slice (some ⟨b, off, none⟩) n cap) (some (.int kl 2)) (some (.int kh (4 + (N : Int)))) none).run Tryd.prog W = .ok v1 W := fun W kl kh => by simpa using H1.out W kl kh
    have hr2 : ∀ (W : World) (kl kh : IntKind), (Instr.slice 27 (.slice (some ⟨b, off, none⟩) n cap) (some (.int kl 4)) (some (.int kh (4 + (N : Int)))) none).run Tryd.prog W = .ok v2 W := fun W kl kh => by simpa using H2.out W kl kh
    clear H1 H2
    generalize nq = nq2 at *
    go_wp2_with (first
      | (go_at_call 64; refine (seal_Sum v1 _ _ w.heap.size (by exact hv1) (by exact ht)).mono ?_; rintro e w' ⟨rfl, rfl⟩)
      | (at_builtin; (refine wpList_append_bts rfl _ _ rfl w.heap.size _ [] rfl (World.ownsRow_lit _ #[] 0 (by simp) (by simp) rfl) v2 m2 w.heap.size rfl (hv2.below ((bdN _ _ _).alloc (by simp) _) (Nat.le_refl _)) (by simp; omega) (by simp) ?_)))
    intro v3 w3 hown3 hg3 _
    have hB3 : Below w.heap.size w w3 := ((bdN w.heap.size w _).alloc (by simp) _).grown hg3 (by simp) (fun k hk => by cases hk; simp)
    clear hg3
    go_wp2
    go_ret3
    exact ⟨_, by simp; omega, hown3, hB3⟩
  · rw [if_pos (by simpa using hsm)]
    have hne : (b32 (crc (List.drop 2 (List.take (4 + N) l))) != b32 (w32 s0 ||| w32 s1 <<< 8 ||| w32 s2 <<< 16 ||| w32 s3 <<< 24)) = true := by
      rw [bne_iff_ne]; intro h; exact hsm (b32_inj h)
    clear hsm
    go_enter Tryd.func43, Tryd.ntmps43
    go_wp2
    go_quiet (fail)
    go_wp2
    go_quiet (fail)
    have hr1 : ∀ (W : World) (kl kh : IntKind), (Instr.slice 27 (.slice (some ⟨b, off, none⟩) n cap) (some (.int kl 2)) (some (.int kh (4 + (N : Int)))) none).run Tryd.prog W = .ok v1 W := fun W kl kh => by simpa using H1.out W kl kh
    have hr2 : ∀ (W : World) (kl kh : IntKind), (Instr.slice 27 (.slice (some ⟨b, off, none⟩) n cap) (some (.int kl 4)) (some (.int kh (4 + (N : Int)))) none).run Tryd.prog W = .ok v2 W := fun W kl kh => by simpa using H2.out W kl kh
    clear H1 H2
    go_wp2_with (go_at_call 64; refine (seal_Sum v1 _ _ w.heap.size (by exact hv1) (by exact ht)).mono ?_; rintro e w' ⟨rfl, rfl⟩)
    go_ret3
    exact ⟨_, rfl, Own.nil _ _, ⟨rfl, rfl, rfl, Nat.le_refl _, fun _ _ => rfl⟩⟩

end Go.Proofs.YtgnpjenpehfjbaaDoor

namespace Go.Proofs.YtgnpjenpehfjbaaDoor
open Go.RowKit

theorem seal_Open (v : Value) (l : List UInt8) (w : World) (hb : Bts w w.heap.size v l) (ht : TabOK w) :
    Calls Tryd.prog 43 #[v] w fun e w' => ∃ v', e = .returned (.tuple #[v', .int .i64 ((openF l).2.1 : Int), .int .i64 ((openF l).2.2 : Int)]) ∧ Own w' w.heap.size v' (openF l).1 ∧ Below w.heap.size w w' := by
  by_cases hbad : badForm l
  · have hF : openF l = ([], 0, 20) := by unfold openF; rw [if_pos hbad]
    rcases hb.form with ⟨rfl, _⟩ | ⟨hpos, b, off, cap, rfl, hcap, hm, hbB, hc⟩
    · simp [badForm] at hbad
    · refine (open_bad w b off _ cap l rfl hm hc hbad).mono ?_
      rintro e w' ⟨rfl, rfl⟩
      rw [hF]
      exact ⟨_, rfl, Own.nil _ _, Below.refl _ _⟩
  · by_cases h4 : l.length < 4
    · have hF : openF l = ([], 0, 21) := by unfold openF; rw [if_neg hbad, if_pos h4]
      obtain ⟨ao, cap, rfl, hcap, hm, hn, hl⟩ := hb
      refine (open_short w ao _ cap l rfl (fun hp => ?_) hbad h4).mono ?_
      · obtain ⟨b, off, rfl, _, hc⟩ := hl (by intro h; subst h; simp at hp)
        exact ⟨b, off, rfl, hc⟩
      · rintro e w' ⟨rfl, rfl⟩
        rw [hF]
        exact ⟨_, rfl, Own.nil _ _, Below.refl _ _⟩
    · rcases hb.form with ⟨rfl, _⟩ | ⟨hpos, b, off, cap, rfl, hcap, hm, hbB, hc⟩
      · simp at h4
      · by_cases hlen : l.length < bodyLen l + 8
        · have hF : openF l = ([], 0, 21) := by unfold openF; rw [if_neg hbad, if_neg h4, if_pos hlen]
          refine (open_cutoff w b off _ cap l rfl hm hc hbad (by omega) hlen).mono ?_
          rintro e w' ⟨rfl, k, rfl⟩
          rw [hF]
          exact ⟨_, rfl, Own.nil _ _, bdN _ _ _⟩
        · exact open_whole w b off _ cap l rfl hm hcap hbB ht hc hbad (by omega) (by omega)

theorem le32_byte (s : BitVec 32) (j : Nat) (hj : j < 4) : b32 s / 2 ^ (8 * j) % 256 = (((le32 s).getD j 0).toNat : Int) := by
  have hs := s.isLt
  unfold b32 le32
  match j, hj with
  | 0, _ => show _ = ((UInt8.ofNat (s.toNat % 256)).toNat : Int); rw [byte_of _ (by omega)]; simp
  | 1, _ => show _ = ((UInt8.ofNat (s.toNat / 256 % 256)).toNat : Int); rw [byte_of _ (by omega)]; simp
  | 2, _ => show _ = ((UInt8.ofNat (s.toNat / 65536 % 256)).toNat : Int); rw [byte_of _ (by omega)]; simp
  | 3, _ => show _ = ((UInt8.ofNat (s.toNat / 16777216)).toNat : Int); rw [byte_of _ (by omega)]; simp; omega

theorem w32_lt (c : UInt8) : (w32 c).toNat = c.toNat := by
  have := c.toNat_lt
  unfold w32; rw [BitVec.toNat_ofNat]; omega
theorem rd32_toNat (c0 c1 c2 c3 : UInt8) : (rd32 c0 c1 c2 c3).toNat = c0.toNat + 256 * c1.toNat + 65536 * c2.toNat + 16777216 * c3.toNat := by
  have h0 := c0.toNat_lt
  have h1 := c1.toNat_lt
  have h2 := c2.toNat_lt
  have h3 := c3.toNat_lt
  unfold rd32
  simp only [BitVec.toNat_or, BitVec.toNat_shiftLeft, w32_lt, Nat.shiftLeft_eq]
  rw [Nat.mod_eq_of_lt (by omega), Nat.mod_eq_of_lt (by omega), Nat.mod_eq_of_lt (by omega)]
  have e1 := Nat.two_pow_add_eq_or_of_lt (i := 8) (b := c0.toNat) (by omega) c1.toNat
  have e2 := Nat.two_pow_add_eq_or_of_lt (i := 16) (b := c0.toNat + 256 * c1.toNat) (by omega) c2.toNat
  have e3 := Nat.two_pow_add_eq_or_of_lt (i := 24) (b := c0.toNat + 256 * c1.toNat + 65536 * c2.toNat) (by omega) c3.toNat
  have f1 : c0.toNat ||| c1.toNat * 2 ^ 8 = c0.toNat + 256 * c1.toNat := by rw [Nat.or_comm, Nat.mul_comm, ← e1]; omega
  have f2 : (c0.toNat + 256 * c1.toNat) ||| c2.toNat * 2 ^ 16 = c0.toNat + 256 * c1.toNat + 65536 * c2.toNat := by rw [Nat.or_comm, Nat.mul_comm c2.toNat, ← e2]; omega
  have f3 : (c0.toNat + 256 * c1.toNat + 65536 * c2.toNat) ||| c3.toNat * 2 ^ 24 = c0.toNat + 256 * c1.toNat + 65536 * c2.toNat + 16777216 * c3.toNat := by rw [Nat.or_comm, Nat.mul_comm c3.toNat, ← e3]; omega
  rw [f1, f2, f3]

theorem le32_rd32 (c0 c1 c2 c3 : UInt8) : le32 (rd32 c0 c1 c2 c3) = [c0, c1, c2, c3] := by
  have h0 := c0.toNat_lt
  have h1 := c1.toNat_lt
  have h2 := c2.toNat_lt
  have h3 := c3.toNat_lt
  unfold le32
  rw [rd32_toNat]
  have e0 : (c0.toNat + 256 * c1.toNat + 65536 * c2.toNat + 16777216 * c3.toNat) % 256 = c0.toNat := by omega
  have e1 : (c0.toNat + 256 * c1.toNat + 65536 * c2.toNat + 16777216 * c3.toNat) / 256 % 256 = c1.toNat := by omega
  have e2 : (c0.toNat + 256 * c1.toNat + 65536 * c2.toNat + 16777216 * c3.toNat) / 65536 % 256 = c2.toNat := by omega
  have e3 : (c0.toNat + 256 * c1.toNat + 65536 * c2.toNat + 16777216 * c3.toNat) / 16777216 = c3.toNat := by omega
  rw [e0, e1, e2, e3]
  simp

theorem rd32_le32 (s : BitVec 32) : rd32 ((le32 s).getD 0 0) ((le32 s).getD 1 0) ((le32 s).getD 2 0) ((le32 s).getD 3 0) = s := by
  apply BitVec.eq_of_toNat_eq
  rw [rd32_toNat]
  have h0 := le32_byte s 0 (by decide)
  have h1 := le32_byte s 1 (by decide)
  have h2 := le32_byte s 2 (by decide)
  have h3 := le32_byte s 3 (by decide)
  have hs := s.isLt
  unfold b32 at h0 h1 h2 h3
  simp only [Nat.mul_zero, Nat.mul_one, Nat.reduceMul] at h0 h1 h2 h3
  rw [show (2 : Int) ^ 8 = 256 from rfl] at h1
  rw [show (2 : Int) ^ 16 = 65536 from rfl] at h2
  rw [show (2 : Int) ^ 24 = 16777216 from rfl] at h3
  rw [show (2 : Int) ^ 0 = 1 from rfl] at h0
  omega

end Go.Proofs.YtgnpjenpehfjbaaDoor

namespace Go.Proofs.YtgnpjenpehfjbaaDoor
open Go.RowKit

/-- the forms that are refused at once -/
theorem ropen_bad (w : World) (b off n cap : Nat) (l : List UInt8) (hl : l.length = n) (hn : n ≤ 9223372036854775807) (hc : ∀ i, i < n → w.cell? ⟨b, off + i, none⟩ = some (.int .u8 ((l.getD i 0).toNat : Int))) (hbad : badForm l) :
    Calls Tryd.prog 45 #[.slice (some ⟨b, off, none⟩) n cap] w fun e w' => e = .returned (.tuple #[.slice none 0 0, .int .i64 0, .int .i64 20]) ∧ w = w' := by
  unfold badForm at hbad
  rw [hl] at hbad
  clear hl
  by_cases h0 : 0 < n ∧ l.getD 0 0 ≠ 237
  · have hc0 : w.cell? ⟨b, off, none⟩ = _ := hc 0 h0.1
    have hne : (((l.getD 0 0).toNat : Int) != 237) = true := ne_test' _ 237 h0.2
    have hpos := h0.1
    clear hbad h0 hc
    generalize l.getD 0 0 = c0 at *
    go_enter Tryd.func45, Tryd.ntmps45
    go_wp2
    go_ret3
    exact ⟨rfl, by trivial⟩
  · rcases hbad with h | ⟨h1, h2⟩
    · exact absurd h h0
    have h3 : l.getD 0 0 = 237 := by
      by_cases hh : l.getD 0 0 = 237
      · exact hh
      · exact absurd ⟨by omega, hh⟩ h0
    have hc0 : w.cell? ⟨b, off, none⟩ = some (.int .u8 237) := cell_is (hc 0 (by omega)) 237 h3
    have hc1 : w.cell? ⟨b, off + 1, none⟩ = _ := hc 1 (by omega)
    have hne : (((l.getD 1 0).toNat : Int) != 91) = true := ne_test' _ 91 h2
    clear h0 hc h3 h2
    generalize l.getD 1 0 = c1 at *
    go_enter Tryd.func45, Tryd.ntmps45
    go_wp2
    go_ret3
    exact ⟨rfl, by trivial⟩


/-- too short for a mark and a length -/
theorem ropen_short (w : World) (ao : Option Addr) (n cap : Nat) (l : List UInt8) (hl : l.length = n)
    (hcc : 0 < n → ∃ b off, ao = some ⟨b, off, none⟩ ∧ ∀ i, i < n → w.cell? ⟨b, off + i, none⟩ = some (.int .u8 ((l.getD i 0).toNat : Int))) (hgood : ¬ badForm l) (h4 : n < 4) :
    Calls Tryd.prog 45 #[.slice ao n cap] w fun e w' => e = .returned (.tuple #[.slice none 0 0, .int .i64 0, .int .i64 21]) ∧ w = w' := by
  unfold badForm at hgood
  rw [hl] at hgood
  clear hl
  by_cases h0 : 0 < n
  · obtain ⟨b, off, rfl, hc⟩ := hcc h0
    have e0 : l.getD 0 0 = 237 := by
      by_cases hh : l.getD 0 0 = 237
      · exact hh
      · exact absurd (.inl ⟨by omega, hh⟩) hgood
    have hc0 : w.cell? ⟨b, off, none⟩ = some (.int .u8 237) := cell_is (hc 0 (by omega)) 237 e0
    by_cases h1 : 1 < n
    · have e1 : l.getD 1 0 = 91 := by
        by_cases hh : l.getD 1 0 = 91
        · exact hh
        · exact absurd (.inr ⟨by omega, hh⟩) hgood
      have hc1 : w.cell? ⟨b, off + 1, none⟩ = some (.int .u8 91) := cell_is (hc 1 (by omega)) 91 e1
      clear hc hcc e0 e1 hgood
      go_enter Tryd.func45, Tryd.ntmps45
      go_wp2
      go_ret3
      exact ⟨rfl, by trivial⟩
    · clear hc hcc e0 hgood
      go_enter Tryd.func45, Tryd.ntmps45
      go_wp2
      go_ret3
      exact ⟨rfl, by trivial⟩
  · obtain rfl : n = 0 := by omega
    clear hcc hgood
    go_enter Tryd.func45, Tryd.ntmps45
    go_wp2
    go_ret3
    exact ⟨rfl, by trivial⟩

/-- what the length says is not there -/
theorem ropen_cutoff (w : World) (b off n cap : Nat) (l : List UInt8) (hl : l.length = n) (hn : n ≤ 9223372036854775807)
    (hc : ∀ i, i < n → w.cell? ⟨b, off + i, none⟩ = some (.int .u8 ((l.getD i 0).toNat : Int))) (hgood : ¬ badForm l) (h4 : 4 ≤ n) (hlen : n < bodyLen l + 8) :
    Calls Tryd.prog 45 #[.slice (some ⟨b, off, none⟩) n cap] w fun e w' => e = .returned (.tuple #[.slice none 0 0, .int .i64 0, .int .i64 21]) ∧ ∃ k, w' = w.drewN k := by
  unfold badForm at hgood
  rw [hl] at hgood
  clear hl
  have e0 : l.getD 0 0 = 237 := by
    by_cases hh : l.getD 0 0 = 237
    · exact hh
    · exact absurd (.inl ⟨by omega, hh⟩) hgood
  have hc0 : w.cell? ⟨b, off, none⟩ = some (.int .u8 237) := cell_is (hc 0 (by omega)) 237 e0
  have e1 : l.getD 1 0 = 91 := by
    by_cases hh : l.getD 1 0 = 91
    · exact hh
    · exact absurd (.inr ⟨by omega, hh⟩) hgood
  have hc1 : w.cell? ⟨b, off + 1, none⟩ = some (.int .u8 91) := cell_is (hc 1 (by omega)) 91 e1
  have hc2 : w.cell? ⟨b, off + 2, none⟩ = _ := hc 2 (by omega)
  have hc3 : w.cell? ⟨b, off + 3, none⟩ = _ := hc 3 (by omega)
  clear hc e0 e1 hgood
  unfold bodyLen at hlen
  generalize l.getD 2 0 = c2 at *
  generalize l.getD 3 0 = c3 at *
  have h2 := c2.toNat_lt
  have h3 := c3.toNat_lt
  go_enter Tryd.func45, Tryd.ntmps45
  go_wp2
  go_quiet (fail)
  go_wp2
  go_ret3
  exact ⟨rfl, _, rfl⟩



theorem le32_get (c : Nat → UInt8) (j : Nat) (hj : j < 4) : (le32 (rd32 (c 0) (c 1) (c 2) (c 3))).getD j 0 = c j := by
  rw [le32_rd32]
  match j, hj with
  | 0, _ => rfl
  | 1, _ => rfl
  | 2, _ => rfl
  | 3, _ => rfl
/-- the whole frame is there -/
theorem ropen_whole (w : World) (b off n cap : Nat) (l : List UInt8) (hl : l.length = n) (hn : n ≤ 9223372036854775807) (hcap : n ≤ cap) (hbw : b < w.heap.size)
    (hc : ∀ i, i < n → w.cell? ⟨b, off + i, none⟩ = some (.int .u8 ((l.getD i 0).toNat : Int))) (hgood : ¬ badForm l) (h4 : 4 ≤ n) (hlen : bodyLen l + 8 ≤ n) :
    Calls Tryd.prog 45 #[.slice (some ⟨b, off, none⟩) n cap] w fun e w' => ∃ v', e = .returned (.tuple #[v', .int .i64 ((openF l).2.1 : Int), .int .i64 ((openF l).2.2 : Int)]) ∧ Own w' w.heap.size v' (openF l).1 ∧ Below w.heap.size w w' := by
  have hb : Bts w w.heap.size (.slice (some ⟨b, off, none⟩) n cap) l := ⟨_, _, by rw [hl], by omega, by unfold maxLen; omega, fun h => by (cases h), fun _ => ⟨b, off, rfl, hbw, by rw [hl]; exact hc⟩⟩
  have hF : openF l = if crc ((l.take (4 + bodyLen l)).drop 2) ≠ sumAt l (4 + bodyLen l) then ([], 0, 22) else ((l.take (4 + bodyLen l)).drop 4, bodyLen l + 8, 0) := by
    unfold openF
    rw [if_neg hgood, if_neg (by omega), if_neg (by omega)]
  obtain ⟨v1, hv1, hr1⟩ := hb.cutB 2 (4 + bodyLen l) (by omega) (by omega)
  obtain ⟨v2, hv2, hr2⟩ := hb.cutB 4 (4 + bodyLen l) (by omega) (by omega)
  unfold badForm at hgood
  rw [hl] at hgood
  have e0 : l.getD 0 0 = 237 := by
    by_cases hh : l.getD 0 0 = 237
    · exact hh
    · exact absurd (.inl ⟨by omega, hh⟩) hgood
  have hc0 : w.cell? ⟨b, off, none⟩ = some (.int .u8 237) := cell_is (hc 0 (by omega)) 237 e0
  have e1 : l.getD 1 0 = 91 := by
    by_cases hh : l.getD 1 0 = 91
    · exact hh
    · exact absurd (.inr ⟨by omega, hh⟩) hgood
  have hc1 : w.cell? ⟨b, off + 1, none⟩ = some (.int .u8 91) := cell_is (hc 1 (by omega)) 91 e1
  have hc2 : w.cell? ⟨b, off + 2, none⟩ = _ := hc 2 (by omega)
  have hc3 : w.cell? ⟨b, off + 3, none⟩ = _ := hc 3 (by omega)
  have h2 := (l.getD 2 0).toNat_lt
  have h3 := (l.getD 3 0).toNat_lt
  have hN : bodyLen l = (l.getD 2 0).toNat + 256 * (l.getD 3 0).toNat := rfl
  have hNi : ((l.getD 2 0).toNat : Int) + 256 * ((l.getD 3 0).toNat : Int) = ((bodyLen l : Nat) : Int) := by omega
  have hb1 : bodyLen l < 65536 := by omega
  have hs : ∀ j, j < 4 → w.cell? ⟨b, off + (4 + bodyLen l + j), none⟩ = some (.int .u8 ((l.getD (4 + bodyLen l + j) 0).toNat : Int)) := fun j hj => hc (4 + bodyLen l + j) (by omega)
  have hsum : sumAt l (4 + bodyLen l) = rd32 (l.getD (4 + bodyLen l + 0) 0) (l.getD (4 + bodyLen l + 1) 0) (l.getD (4 + bodyLen l + 2) 0) (l.getD (4 + bodyLen l + 3) 0) := rfl
  clear hc e0 e1 hgood hN hb
  generalize sumAt l (4 + bodyLen l) = want at *
  generalize openF l = R at *
  generalize l.getD 2 0 = c2 at *
  generalize l.getD 3 0 = c3 at *
  generalize bodyLen l = N at *
  have H1 := Lib.hid hr1
  have H2 := Lib.hid hr2
  have HL := Lib.hid hl
  have HW := Lib.hid hsum
  have HS := Lib.hid hs
  clear hl hsum hr1 hr2 hs
  generalize hm1 : List.drop 2 (List.take (4 + N) l) = m1 at *
  have hm2 : (List.drop 4 (List.take (4 + N) l)).length ≤ 65536 := by simp; omega
  generalize List.drop 4 (List.take (4 + N) l) = m2 at *
  clear hm1
  generalize hsm : crc m1 = sm at *
  have HM := Lib.hid hsm
  have HF := Lib.hid hF
  clear hsm hF
  go_enter Tryd.func45, Tryd.ntmps45
  go_wp2
  go_quiet (fail)
  have hr1 : ∀ (W : World) (kl kh : IntKind), (Instr.slice 27 (.slice (some ⟨b, off, none⟩) n cap) (some (.int kl 2)) (some (.int kh (4 + (N : Int)))) none).run Tryd.prog W = .ok v1 W := fun W kl kh => by simpa using H1.out W kl kh
  have hr2 : ∀ (W : World) (kl kh : IntKind), (Instr.slice 27 (.slice (some ⟨b, off, none⟩) n cap) (some (.int kl 4)) (some (.int kh (4 + (N : Int)))) none).run Tryd.prog W = .ok v2 W := fun W kl kh => by simpa using H2.out W kl kh
  clear H1 H2
  go_wp2_with (go_at_call 47; refine (ref_Sum v1 _ _ w.heap.size (by exact hv1)).mono ?_; rintro e w' ⟨rfl, rfl⟩; rw [HM.out])
  go_loopw [7] (fun i wr => ∃ j : Nat, j ≤ 4 ∧ i = .int .i64 j ∧ Hid (∀ t, t < j → l.getD (4 + N + t) 0 = (le32 sm).getD t 0) ∧ ∃ k, wr = w.drewN k) (fun i _ => 4 - (intOf i).toNat)
  case atStart => exact ⟨0, by omega, rfl, (fun t ht => by omega), _, rfl⟩
  case round =>
    obtain ⟨j, hj, rfl, HJ, k, rfl⟩ := hrel
    by_cases hj4 : j < 4
    · have hcj : w.cell? ⟨b, off + (4 + N + j), none⟩ = _ := HS.out j hj4
      have hd := le32_byte sm j hj4
      by_cases heq : l.getD (4 + N + j) 0 = (le32 sm).getD j 0
      · have hne : (((l.getD (4 + N + j) 0).toNat : Int) != (((le32 sm).getD j 0).toNat : Int)) = false := by rw [heq]; simp
        have HQ := Lib.hid heq
        clear heq
        generalize hdj : (le32 sm).getD j 0 = dj at *
        generalize hcc : l.getD (4 + N + j) 0 = cj at *
        have HD := Lib.hid hdj
        have HC := Lib.hid hcc
        clear hdj hcc
        go_wp2
        go_quiet (fail)
        go_wp2
        go_roundw
        case rel =>
          refine ⟨j + 1, by omega, by go_num, (fun t ht => ?_), _, rfl⟩
          by_cases htj : t = j
          · subst htj; rw [HC.out, HD.out, HQ.out]
          · exact HJ.out t (by omega)
        case measure => simp [intOf]; omega
      · have hne : (((l.getD (4 + N + j) 0).toNat : Int) != (((le32 sm).getD j 0).toNat : Int)) = true := by
          rw [bne_iff_ne]; intro h; exact heq (UInt8.toNat_inj.1 (by omega))
        have hsw : Hid (sm ≠ want) := by
          intro h
          apply heq
          rw [h, HW.out, le32_get (fun i => l.getD (4 + N + i) 0) j hj4]
        clear heq
        generalize (le32 sm).getD j 0 = dj at *
        generalize l.getD (4 + N + j) 0 = cj at *
        go_wp2
        go_quiet (fail)
        go_wp2
        go_ret3
        rw [show R = ([], 0, 22) from HF.out.trans (if_pos hsw.out)]
        exact ⟨_, rfl, Own.nil _ _, ⟨rfl, rfl, rfl, Nat.le_refl _, fun _ _ => rfl⟩⟩
    · have : j = 4 := by omega
      subst this
      have heq : Hid (sm = want) := by
        show sm = want
        rw [HW.out, HJ.out 0 (by omega), HJ.out 1 (by omega), HJ.out 2 (by omega), HJ.out 3 (by omega), rd32_le32]
      clear HJ HW HS
      go_wp2_with (at_builtin; (refine wpList_append_bts rfl _ _ rfl w.heap.size _ [] rfl (Own.nil _ _) v2 m2 w.heap.size rfl (hv2.below (bdN _ _ _) (Nat.le_refl _)) (by simp; omega) (by simp) ?_))
      intro v3 w3 hown3 hg3 _
      have hB3 : Below w.heap.size w w3 := (bdN w.heap.size w _).grown hg3 (by simp) (fun k hk => by cases hk)
      clear hg3
      go_wp2
      go_ret3
      rw [show R = (m2, N + 8, 0) from HF.out.trans (if_neg (by simp [heq.out]))]
      exact ⟨_, by simp, hown3, hB3⟩

theorem ref_Open (v : Value) (l : List UInt8) (w : World) (hb : Bts w w.heap.size v l) :
    Calls Tryd.prog 45 #[v] w fun e w' => ∃ v', e = .returned (.tuple #[v', .int .i64 ((openF l).2.1 : Int), .int .i64 ((openF l).2.2 : Int)]) ∧ Own w' w.heap.size v' (openF l).1 ∧ Below w.heap.size w w' := by
  by_cases hbad : badForm l
  · have hF : openF l = ([], 0, 20) := by unfold openF; rw [if_pos hbad]
    rcases hb.form with ⟨rfl, _⟩ | ⟨hpos, b, off, cap, rfl, hcap, hm, hbB, hc⟩
    · simp [badForm] at hbad
    · refine (ropen_bad w b off _ cap l rfl hm hc hbad).mono ?_
      rintro e w' ⟨rfl, rfl⟩
      rw [hF]
      exact ⟨_, rfl, Own.nil _ _, Below.refl _ _⟩
  · by_cases h4 : l.length < 4
    · have hF : openF l = ([], 0, 21) := by unfold openF; rw [if_neg hbad, if_pos h4]
      obtain ⟨ao, cap, rfl, hcap, hm, hn, hl⟩ := hb
      refine (ropen_short w ao _ cap l rfl (fun hp => ?_) hbad h4).mono ?_
      · obtain ⟨b, off, rfl, _, hc⟩ := hl (by intro h; subst h; simp at hp)
        exact ⟨b, off, rfl, hc⟩
      · rintro e w' ⟨rfl, rfl⟩
        rw [hF]
        exact ⟨_, rfl, Own.nil _ _, Below.refl _ _⟩
    · rcases hb.form with ⟨rfl, _⟩ | ⟨hpos, b, off, cap, rfl, hcap, hm, hbB, hc⟩
      · simp at h4
      · by_cases hlen : l.length < bodyLen l + 8
        · have hF : openF l = ([], 0, 21) := by unfold openF; rw [if_neg hbad, if_neg h4, if_pos hlen]
          refine (ropen_cutoff w b off _ cap l rfl hm hc hbad (by omega) hlen).mono ?_
          rintro e w' ⟨rfl, k, rfl⟩
          rw [hF]
          exact ⟨_, rfl, Own.nil _ _, bdN _ _ _⟩
        · exact ropen_whole w b off _ cap l rfl hm hcap hbB hc hbad (by omega) (by omega)

end Go.Proofs.YtgnpjenpehfjbaaDoor

