/- General lemmas of this seat's proofs, no statement of the seat: numbers of 32 bits as bit vectors, slices of bytes as lists, append onto a slice of the call's own.
Slices of bytes that a call makes itself, by this seat's own types.
A range over a function whose iterator reads memory and makes blocks of its own between two rounds: what it hands over may be known by what it holds in memory ('R').
A region that draws its order, whose operations only read or make memory: whatever the order, each operation yields what is said of it.
A region that draws its order, whose operations only read or make memory, some of them not wanted: whatever the order, each operation yields what is said of it.
A region that draws its order, by what holds of the world while it runs, with any number of stores: the operations ys 0, ys 1, .. yield values into slots, the others store; J says of the world what holds when the operations marked in d have run, with these values. And one operation of a plain region, by its run.
General lemmas of this seat's proofs: boxes, rows, single operations (gathered by program: wip/tools/gen_gen.py).
append(s, new elements ..) within a region that draws its order: what holds while it runs.
A region that draws its order, inside any fence that lets every function in: by what holds of the world while it runs; operations may yield, store, call, or not be wanted.
As FlowM; a slot that the region writes may be read ahead of the write.
Decimal digits, plain: what FormatInt writes, what ParseInt reads, for all of 64 bits.
Scripts, plain: words, shapes, quotes, lines; tokens, steps, texts. No program here (by program: wip/tools/gen_sc1.py).
Scripts, plain: what is printed is read the same. No program here.
Scripts, plain: the document's number. No program here.
Scripts, plain: steps there and back; texts there and back. No program here.
Scripts, plain: texts there and back. No program here.
Scripts, plain: blanks and comments play no part. No program here.
Scripts, plain: a text's lines with their numbers; a script read line by line (by program: wip/tools/gen_slines.py). -/
import Derived.Test.YtaeoghagpeihkaaDoorRows
import Derived.WalkKit
import Derived.WalkSpells
import Derived.WalkLawsBesides
import Derived.Lib.Hide
import Derived.Laws.AppendOwnNone
import Derived.RangeFuncNested
import Derived.RangeFuncBound
import Derived.RangeFuncCalls
import Derived.RangeFuncLeaves
import Derived.Shelf.Abstract
import Derived.Shelf.RegionOpen
import Derived.OwnWalkIn
import Derived.TacticsInMore
import Derived.LoopNIn
import Derived.LoopIn
import Derived.Deep.WholeRow
import Derived.Deep.MidRow
import Derived.Deep.Cut
import Derived.Lib.OwnKind
import Derived.Deep.DeepAppendWide
import Derived.Deep.AppendLies
import Derived.Lib.ParseIntB
import Derived.Lib.ItoaNum
import Derived.Lib.Bytealg
set_option linter.unusedSimpArgs false
set_option linter.unusedVariables false
namespace Go.Proofs.YtaeoghagpeihkaaDoor
open Go.RowKit

theorem wrap_u32_nat (n : Nat) (h : n < 4294967296) : IntKind.u32.wrap (n : Int) = (n : Int) := by
  simp only [IntKind.wrap_u32]; omega
theorem ofInt_toNat32 (x : BitVec 32) : BitVec.ofInt IntKind.u32.bits (x.toNat : Int) = x := by
  show BitVec.ofInt 32 (x.toNat : Int) = x
  apply BitVec.eq_of_toNat_eq; simp
/-- a number of 32 bits, closed to the walk -/
def b32 (x : BitVec 32) : Int := (x.toNat : Int)
theorem bits_xor_u32 (x y : BitVec 32) : bits .xor .u32 (b32 x) (b32 y) = b32 (x ^^^ y) := by
  unfold bits b32
  simp only [ofInt_toNat32]
  exact wrap_u32_nat _ (x ^^^ y).isLt
theorem bits_and_u32 (x y : BitVec 32) : bits .and .u32 (b32 x) (b32 y) = b32 (x &&& y) := by
  unfold bits b32
  simp only [ofInt_toNat32]
  exact wrap_u32_nat _ (x &&& y).isLt
theorem bits_or_u32 (x y : BitVec 32) : bits .or .u32 (b32 x) (b32 y) = b32 (x ||| y) := by
  unfold bits b32
  simp only [ofInt_toNat32]
  exact wrap_u32_nat _ (x ||| y).isLt
/-- a byte as a number of 32 bits -/
def w32 (x : UInt8) : BitVec 32 := BitVec.ofNat 32 x.toNat
theorem w32_toNat (x : UInt8) : b32 (w32 x) = x.toNat := by
  have := x.toNat_lt
  unfold w32 b32; rw [BitVec.toNat_ofNat]; omega
theorem bits_xor_u32_u8 (r : BitVec 32) (x : UInt8) : bits .xor .u32 (b32 r) (x.toNat : Int) = b32 (r ^^^ w32 x) := by
  rw [← w32_toNat]; exact bits_xor_u32 _ _
theorem u8_mod32 (x : UInt8) : (x.toNat : Int) % 4294967296 = (x.toNat : Int) := by have := x.toNat_lt; omega
attribute [go_sem] u8_mod32 bits_xor_u32 bits_and_u32 bits_or_u32 bits_xor_u32_u8

/-- a byte's cell -/
abbrev byteV (c : UInt8) : Value := .int .u8 (c.toNat : Int)

/-- THE SLICE VALUE v READS AS THE BYTES l, all of it below block B. -/
def Bts (w : World) (B : Nat) (v : Value) (l : List UInt8) : Prop :=
  ∃ ao cap, v = .slice ao l.length cap ∧ l.length ≤ cap ∧ l.length ≤ maxLen ∧ (ao = none → cap = 0) ∧
    (l ≠ [] → ∃ b off, ao = some ⟨b, off, none⟩ ∧ b < B ∧ ∀ i, i < l.length → w.cell? ⟨b, off + i, none⟩ = some (.int .u8 ((l.getD i 0).toNat : Int)))

theorem Bts.form {w : World} {B : Nat} {v : Value} {l : List UInt8} (h : Bts w B v l) :
    (l = [] ∧ ∃ ao cap, v = .slice ao 0 cap ∧ (ao = none → cap = 0)) ∨
    (0 < l.length ∧ ∃ b off cap, v = .slice (some ⟨b, off, none⟩) l.length cap ∧ l.length ≤ cap ∧ l.length ≤ 9223372036854775807 ∧ b < B ∧ ∀ i, i < l.length → w.cell? ⟨b, off + i, none⟩ = some (.int .u8 ((l.getD i 0).toNat : Int))) := by
  obtain ⟨ao, cap, rfl, hc, hm, hn, hl⟩ := h
  cases l with
  | nil => exact .inl ⟨rfl, ao, cap, rfl, hn⟩
  | cons x r =>
    obtain ⟨b, off, rfl, hb, hcell⟩ := hl (by simp)
    exact .inr ⟨by simp, b, off, cap, rfl, hc, by simpa [maxLen] using hm, hb, hcell⟩

theorem Bts.len {w : World} {B : Nat} {v : Value} {l : List UInt8} (h : Bts w B v l) : l.length ≤ 9223372036854775807 := by
  obtain ⟨ao, cap, rfl, hc, hm, hn, hl⟩ := h
  simpa [maxLen] using hm

theorem Bts.nil (w : World) (B : Nat) : Bts w B (.slice none 0 0) [] := ⟨none, 0, rfl, by simp, by simp, fun _ => rfl, fun h => absurd rfl h⟩

theorem Bts.below {w w' : World} {B B' : Nat} {v : Value} {l : List UInt8} (h : Bts w B v l) (hb : Below B w w') (hB : B ≤ B') : Bts w' B' v l := by
  obtain ⟨ao, cap, rfl, hc, hm, hn, hl⟩ := h
  refine ⟨ao, cap, rfl, hc, hm, hn, fun hne => ?_⟩
  obtain ⟨b, off, rfl, hbB, hcell⟩ := hl hne
  exact ⟨b, off, rfl, by omega, fun i hi => (hb.cell (p := ⟨b, off + i, none⟩) hbB).trans (hcell i hi)⟩

theorem Bts.mono {w : World} {B B' : Nat} {v : Value} {l : List UInt8} (h : Bts w B v l) (hB : B ≤ B') : Bts w B' v l := h.below (Below.refl _ _) hB

/-- A slice's string. -/
theorem strOf_bytes (l : List UInt8) : strOfNums (l.map fun c => (c.toNat : Int)) = ⟨l.toArray⟩ := by
  unfold strOfNums
  congr 2
  induction l with
  | nil => rfl
  | cons a r ih => simp only [List.map_cons, List.cons.injEq]; exact ⟨by simp, ih⟩

theorem Bts.str {P : Program} {w : World} {B : Nat} {v : Value} {l : List UInt8} (h : Bts w B v l) (src e dst : TypeId) (hs : P.underlying src = some (.slice e)) (he : P.underlying e = some (.int .u8))
    (hd : P.underlying dst = some .string) : (convert src dst v).run P w = .ok (.string ⟨l.toArray⟩) w := by
  rcases h.form with ⟨rfl, ao, cap, rfl, hn⟩ | ⟨hpos, b, off, cap, rfl, hcap, hm, hb, hc⟩
  · rw [run_convert_bytes_string w src dst e _ 0 cap hs he hd]
    cases ao with
    | none => simp [Conv.bytesToString]; rfl
    | some a => rw [run_bytesToString w a 0 cap [] (by simp [loadCells, loadCellsFrom])]; rfl
  · rw [run_convert_bytes_arg w src e hs he b off l.length cap (l.map fun c => (c.toNat : Int)) (by simp) (fun i hi => by rw [hc i hi]; simp [List.getD, hi]) dst hd, strOf_bytes]

/-- b[lo:] , b[lo:hi] : in every world. -/
theorem Bts.cut {P : Program} {w : World} {B : Nat} {v : Value} {l : List UInt8} (h : Bts w B v l) (t e : TypeId) (ht : P.underlying t = some (.slice e)) (hsz : P.elem t = e) (hone : ∀ W, (sizeOf e).run P W = .ok 1 W)
    (lo hi : Nat) (h1 : lo ≤ hi) (h2 : hi ≤ l.length) : ∃ v', Bts w B v' ((l.take hi).drop lo) ∧
      (∀ (W : World) (kl kh : IntKind), (Instr.slice t v (some (.int kl (lo : Int))) (some (.int kh (hi : Int))) none).run P W = .ok v' W) := by
  obtain ⟨ao, cap, rfl, hc, hm, hn, hl⟩ := h
  have hlen : ((l.take hi).drop lo).length = hi - lo := by simp; omega
  refine ⟨.slice (if cap = lo then ao else ao.map (·.add lo)) (hi - lo) (cap - lo), ⟨_, _, by rw [hlen], by rw [hlen]; omega, by rw [hlen]; omega, ?_, ?_⟩, ?_⟩
  · intro h0
    split at h0
    · omega
    · have : ao = none := by simpa using h0
      have := hn this; omega
  · intro hne
    have hlt : lo < hi := by
      rcases Nat.lt_or_ge lo hi with h | h
      · exact h
      · exact absurd (List.eq_nil_of_length_eq_zero (by omega)) hne
    obtain ⟨b, off, rfl, hbB, hcell⟩ := hl (by intro h; subst h; simp at h2; omega)
    refine ⟨b, off + lo, ?_, hbB, fun i hi' => ?_⟩
    · rw [if_neg (by omega)]
      simp [Addr.add]
    · rw [hlen] at hi'
      rw [Nat.add_assoc, hcell (lo + i) (by omega)]
      simp [List.getD, show lo + i < hi by omega]
  · intro W kl kh
    subst hsz
    rw [run_slice_lh W t ao l.length cap ht kl kh lo hi (by omega) (by omega) (by omega)]
    rw [hone]
    simp [sliced, Result.andThen]

end Go.Proofs.YtaeoghagpeihkaaDoor

namespace Go.Proofs.YtaeoghagpeihkaaDoor
open Go.RowKit

theorem info_u8 : (Tryd.prog.info? 5).map (fun i => (i.zero, i.size, i.bytes)) = some (some (.int .u8 0), 1, 1) := by kernel_rfl

/-- v is a slice of the call's own (blocks from B on) that holds the bytes l. -/
def Own (w : World) (B : Nat) (v : Value) (l : List UInt8) : Prop := w.ownsRow B 5 1 v l.length (l.map byteV)

theorem Own.bts {w : World} {B : Nat} {v : Value} {l : List UInt8} (h : Own w B v l) : Bts w w.heap.size v l := by
  obtain ⟨h1, h2⟩ := h
  rcases h2 with ⟨rfl, h0⟩ | ⟨g, cap, cur, rfl, hb, hg, hn, hcm, hcs, htake⟩
  · obtain rfl := List.eq_nil_of_length_eq_zero h0
    exact Bts.nil _ _
  · refine ⟨_, _, rfl, hn, by omega, fun h => by (cases h), fun _ => ⟨g, 0, rfl, (Array.getElem?_eq_some_iff.1 hg).1, fun i hi => ?_⟩⟩
    rw [Nat.zero_add, cell_of_row w g i cur _ _ hg]
    have h3 : (l.map byteV)[i]? = some (.int .u8 ((l.getD i 0).toNat : Int)) := by simp [List.getD, hi, byteV]
    rw [← htake, List.getElem?_take] at h3
    simpa [hi] using h3

theorem Own.nil (w : World) (B : Nat) : Own w B (.slice none 0 0) [] := World.ownsRow_nil _ _ _ _
theorem Own.mono {w : World} {B B' : Nat} {v : Value} {l : List UInt8} (h : Own w B v l) (hB : B' ≤ B) : Own w B' v l := by
  obtain ⟨h1, h2⟩ := h
  refine ⟨h1, ?_⟩
  rcases h2 with h2 | ⟨g, cap, cur, hv, hb, r⟩
  · exact .inl h2
  · exact .inr ⟨g, cap, cur, hv, by omega, r⟩
/-- what is owned stays so while other blocks turn -/
theorem Own.kept {w w' : World} {B : Nat} {v : Value} {l : List UInt8} {row : Option Nat} (h : Own w B v l) (hg : w.grownBy w' row) (hne : v.ownBlock = none ∨ v.ownBlock ≠ row) : Own w' B v l := World.ownsRow.kept h hg hne
theorem Own.lt {w : World} {B : Nat} {v : Value} {l : List UInt8} (h : Own w B v l) : ∀ k, v.ownBlock = some k → B ≤ k ∧ k < w.heap.size := World.ownsRow.lt h
/-- what is owned stays so while nothing that there is turns -/
theorem Own.below {w w' : World} {B : Nat} {v : Value} {l : List UInt8} (h : Own w B v l) (hb : Below w.heap.size w w') : Own w' B v l := by
  obtain ⟨h1, h2⟩ := h
  refine ⟨h1, ?_⟩
  rcases h2 with h2 | ⟨g, cap, cur, hv, hB, hg, r⟩
  · exact .inl h2
  · exact .inr ⟨g, cap, cur, hv, hB, by rw [hb.block g (Array.getElem?_eq_some_iff.1 hg).1]; exact hg, r⟩

theorem bytes_oneCell (l : List UInt8) : ∀ u ∈ l.map byteV, u.oneCell' = true := by
  intro u hu
  obtain ⟨c, _, rfl⟩ := List.mem_map.1 hu
  rfl

/-- append(s, x...) : s of the call's own, x whatever reads as bytes -/
theorem wpList_append_bts {w : World} {ops : Array Oper} {rest : List Oper} {o : Oper} {a : Act} {Q : Exit → Act → World → Prop} (hgd : o.guard = none) (s x : Operand)
    (ho : o.op = .call { callee := .builtin .append, args := #[s, x], argTypes := #[39, 39] })
    (base : Nat) (v : Value) (xs : List UInt8) (hs : a.eval s = v) (hown : Own w base v xs)
    (vx : Value) (l : List UInt8) (B : Nat) (hx : a.eval x = vx) (hb : Bts w B vx l)
    (hlen : xs.length + l.length ≤ 140737488355328) (hbase : base ≤ w.heap.size)
    (h : ∀ v' w', Own w' base v' (xs ++ l) → w.grownBy w' v.ownBlock → (v' = .slice none 0 0 ↔ v = .slice none 0 0 ∧ l = []) → wpList Tryd.prog ops Q rest (a.put o.dst v') w') : wpList Tryd.prog ops Q (o :: rest) a w := by
  obtain ⟨i0, hi, hz0, hz1, hz2⟩ := info_parts info_u8
  have main : ∀ (ad : Addr) (c : Nat), vx = .slice (some ad) l.length c → (∀ j u, (l.map byteV)[j]? = some u → w.cell? (ad.add j) = some u) → wpList Tryd.prog ops Q (o :: rest) a w := by
    intro ad c hv hcell
    refine wpList_append_own _ hgd s x _ ho base 5 i0 (.int .u8 0) 1 1 Tryd.underlying39 hi hz0 hz1 hz2 rfl (by decide) v xs.length (xs.map byteV) hs hown ad l.length c (l.map byteV) (hx.trans hv) (by simp) hcell
      (bytes_oneCell l) (by unfold maxLen; omega) (by omega) hbase ?_
    intro v' w' hown' hg hnil
    refine h v' w' (by unfold Own; simpa using hown') hg ?_
    rw [hnil]
    constructor
    · rintro ⟨h1, h2⟩; exact ⟨h1, List.eq_nil_of_length_eq_zero h2⟩
    · rintro ⟨h1, rfl⟩; exact ⟨h1, rfl⟩
  rcases hb.form with ⟨rfl, ao, cap, rfl, hn⟩ | ⟨hpos, b, off, cap, rfl, hcap, hm, hbB, hc⟩
  · cases ao with
    | some ad => exact main ad cap rfl (by intro j u hj; simp at hj)
    | none =>
      obtain rfl := hn rfl
      refine wpList_append_own_none hgd s x _ ho base 5 i0 1 Tryd.underlying39 hi v xs.length (xs.map byteV) hs hown hx ?_
      exact h v w (by simpa using hown) (World.grownBy.refl _ _) ⟨fun h => ⟨h, rfl⟩, fun h => h.1⟩
  · refine main ⟨b, off, none⟩ cap rfl ?_
    intro j u hj
    have hjl : j < l.length := by
      have := (List.getElem?_eq_some_iff.1 hj).1
      simpa using this
    rw [Addr.add_lit, hc j hjl]
    simp [hjl] at hj
    subst hj
    simp [List.getD, hjl]

/-- a literal of bytes, just laid: block g -/
theorem Bts.lit (w : World) (g : Nat) (cur : Array Value) (e : TypeId) (fr : Nat × Nat) (l : List UInt8) (n cap : Nat) (hg : w.heap[g]? = some (.cells cur e fr)) (hn : l.length = n) (hcap : n ≤ cap) (hm : n ≤ maxLen)
    (hcur : ∀ i, i < n → cur[i]? = some (.int .u8 ((l.getD i 0).toNat : Int))) : Bts w w.heap.size (.slice (some ⟨g, 0, none⟩) n cap) l := by
  subst hn
  refine ⟨_, _, rfl, hcap, hm, fun h => by (cases h), fun _ => ⟨g, 0, rfl, (Array.getElem?_eq_some_iff.1 hg).1, fun i hi => ?_⟩⟩
  rw [Nat.zero_add, cell_of_row w g i cur _ _ hg]
  exact hcur i hi

theorem Bts.strB {w : World} {B : Nat} {v : Value} {l : List UInt8} (h : Bts w B v l) : (convert 39 9 v).run Tryd.prog w = .ok (.string ⟨l.toArray⟩) w :=
  h.str 39 5 9 Tryd.underlying39 Tryd.underlying5 Tryd.underlying9

end Go.Proofs.YtaeoghagpeihkaaDoor

namespace Go.Proofs.YtaeoghagpeihkaaDoor
open Go.RowKit

/-- what is said of a world stays true while nothing that is there turns -/
def StaysGrown {α : Type} (J : List α → World → Prop) : Prop := ∀ s W W', J s W → Below W.heap.size W W' → J s W'
/-- .. and while a block from B on turns that holds no cells -/
def StaysPut {α : Type} (B : Nat) (J : List α → World → Prop) : Prop := ∀ s W l (o o' : Obj), J s W → B ≤ l → W.heap[l]? = some o → o.isCells = false → J s (W.putObj l o')

/-- THE CONTRACT OF AN ITERATOR's VALUE. Inv: what it reads; R: what is known of an element when it is handed over; S: all have come; Sp: a part has come, and a round has said 'no more'. -/
def Iterates {α : Type} (F : Fence) (n : Nat) (P : Program) (g : Nat) (lb : Array Value) (encs : α → Array Value) (Inv : World → Prop) (R : List α → α → World → Prop) (S Sp : List α → Prop) : Prop :=
  ∀ (l : Nat) (J Jx : List α → World → Prop) (W : World), StaysGrown J → (∀ s W, J s W → Inv W) →
    (∀ pre x W1, J pre W1 → R pre x W1 → YieldAt F (n - 1) P l (encs x) W1 fun e W' =>
      (e = .returned (.bool true) ∧ J (pre ++ [x]) W') ∨ (e = .returned (.bool false) ∧ Jx (pre ++ [x]) W')) →
    J [] W →
    CallsIn F n P g (#[.func (.yield l) #[] #[]] ++ lb) W fun e W' => (∃ v, e = .returned v) ∧ ((∃ xs, S xs ∧ J xs W') ∨ (∃ pre, Sp pre ∧ Jx pre W'))

variable {F : Fence} {n : Nat} {P : Program}

theorem getD_lt {listed : Array Bool} {i : Nat} (h : listed.getD i true = false) : ∃ hlt : i < listed.toList.length, listed.toList[i] = false := by
  by_cases hlt : i < listed.size
  · refine ⟨by simpa using hlt, ?_⟩
    simpa [Array.getD, hlt] using h
  · simp [Array.getD, hlt] at h
theorem count_set_one {l : List Bool} {i : Nat} (hlt : i < l.length) (hf : l[i] = false) : (l.set i true).count false + 1 = l.count false := by
  rw [List.count_set hlt, hf]
  have : 0 < l.count false := List.count_pos_iff.2 (by rw [← hf]; exact List.getElem_mem hlt)
  simp
  omega
/-- A REGION THAT DRAWS ITS ORDER, BY AN INVARIANT: what holds when the operations marked in 'listed' have run, whatever their order was. -/
theorem wpAnyIn_inv {ops : Array Oper} {Q : Exit → Act → World → Prop} (Inv : Array Bool → Act → World → Prop)
    (hstep : ∀ (listed : Array Bool) (i : Nat) (a : Act) (w : World), Inv listed a w → i ∈ Region.ready .any ops listed → wpOpIn F n P ops Q i (fun a' w' => Inv (listed.setIfInBounds i true) a' w') a w)
    (hend : ∀ (listed : Array Bool) (a : Act) (w : World), Inv listed a w → Region.ready .any ops listed = [] → Q .normal a w) :
    ∀ (fuel : Nat) (listed : Array Bool) (a : Act) (w : World), listed.toList.count false ≤ fuel → Inv listed a w → wpAnyIn F n P .any ops Q fuel listed a w := by
  intro fuel
  induction fuel with
  | zero =>
    intro listed a w hc hi
    have hr : Region.ready .any ops listed = [] := by
      cases h : Region.ready .any ops listed with
      | nil => rfl
      | cons i r =>
        have hm : i ∈ Region.ready .any ops listed := by rw [h]; simp
        obtain ⟨hlt, hf⟩ := getD_lt (mem_ready.1 hm).1
        have := count_set_one hlt hf
        omega
    exact ⟨hr, hend listed a w hi hr⟩
  | succ fuel ih =>
    intro listed a w hc hi
    refine ⟨fun hr => hend listed a w hi hr, fun i hm => ?_⟩
    refine wpOpIn_mono (fun a' w' h' => ih _ a' w' ?_ h') (hstep listed i a w hi hm)
    obtain ⟨hlt, hf⟩ := getD_lt (mem_ready.1 hm).1
    have := count_set_one hlt hf
    simp only [Array.toList_setIfInBounds]
    omega
/-- what has run has run behind what it waits for -/
def Ordered (ops : Array Oper) (listed : Array Bool) : Prop := listed.size = ops.size ∧ ∀ i o, ops[i]? = some o → listed.getD i false = true → ∀ e ∈ o.after, Region.binds .any e = true → listed.getD e.on false = true
theorem getD_set_true' {listed : Array Bool} {i j : Nat} (h : (listed.setIfInBounds i true).getD j false = true) : j = i ∨ listed.getD j false = true := by
  by_cases hij : j = i
  · exact .inl hij
  · exact .inr (by rw [getD_set_ne false (Ne.symm hij)] at h; exact h)
/-- every operation waits for earlier ones alone: asked of the region's own text -/
def lineUp (ops : Array Oper) : Bool := (List.range ops.size).all fun i => (ops.getD i default).after.all fun e => !Region.binds .any e || decide (e.on < i)
theorem all_listed {ops : Array Oper} {listed : Array Bool} (hl : lineUp ops = true) (hsz : listed.size = ops.size) (hr : Region.ready .any ops listed = []) : ∀ i, i < ops.size → listed.getD i false = true := by
  intro i
  induction i using Nat.strongRecOn with
  | _ i ih =>
    intro hi
    cases hf : listed.getD i false with
    | true => rfl
    | false =>
      exfalso
      have hf' : listed.getD i true = false := by
        have : i < listed.size := by omega
        simp [Array.getD, this] at hf ⊢
        exact hf
      have ho : ops[i]? = some ops[i] := by simp [hi]
      have hm : i ∈ Region.ready .any ops listed := mem_ready.2 ⟨hf', ops[i], ho, fun e he hb => by
        have h1 := List.all_eq_true.1 hl i (List.mem_range.2 hi)
        have h2 : (ops.getD i default) = ops[i] := by simp [Array.getD, hi]
        rw [h2] at h1
        have h3 := (Array.all_eq_true_iff_forall_mem.1 h1) e he
        rw [hb] at h3
        have h4 : e.on < i := by simpa using h3
        exact ih e.on h4 (by omega)⟩
      rw [hr] at hm
      cases hm
theorem wpIn_region_inv {ops : Array Oper} {Q : Exit → Act → World → Prop} {id : Nat} {a : Act} {w : World} (hm : P.follows .mixedOrders = true) (hline : lineUp ops = true) (Inv : (Nat → Bool) → Act → World → Prop)
    (h0 : Inv (fun _ => false) a w.drew)
    (hstep : ∀ (d d' : Nat → Bool) (i : Nat) (o : Oper) (a : Act) (w : World), (∀ j u, ops[j]? = some u → d j = true → ∀ e ∈ u.after, Region.binds .any e = true → d e.on = true) → Inv d a w →
      ops[i]? = some o → d i = false → d' i = true → (∀ j, j ≠ i → d' j = d j) → (∀ e ∈ o.after, Region.binds .any e = true → d e.on = true) → wpOpIn F n P ops Q i (Inv d') a w)
    (hend : ∀ (d : Nat → Bool) (a : Act) (w : World), Inv d a w → (∀ i, i < ops.size → d i = true) → Q .normal a w) : (Code.region id ops true).wpIn F n P Q a w := by
  refine wpIn_region_any hm (wpAnyIn_inv (fun listed a w => Ordered ops listed ∧ Inv (fun j => listed.getD j false) a w) ?_ ?_ _ _ _ _ (by simp) ⟨⟨by simp, fun i o _ h => ?_⟩, ?_⟩)
  · rintro listed i a w ⟨hO, hI⟩ hr
    obtain ⟨hf, o, ho, hpre⟩ := mem_ready.1 hr
    obtain ⟨hlt, hfl⟩ := getD_lt hf
    have hsz : i < listed.size := by simpa using hlt
    have hdi : (listed.setIfInBounds i true).getD i false = true := by simp [Array.getD, hsz]
    have hdf : listed.getD i false = false := by simp [Array.getD, hsz]; simpa using hfl
    have hdn : ∀ j, j ≠ i → (listed.setIfInBounds i true).getD j false = listed.getD j false := fun _ h => getD_set_ne false (Ne.symm h)
    refine wpOpIn_mono (fun a' w' h' => ⟨⟨by simpa using hO.1, fun j u hu hj e he hb => ?_⟩, h'⟩) (hstep _ (fun j => (listed.setIfInBounds i true).getD j false) i o a w hO.2 hI ho hdf hdi hdn hpre)
    rcases getD_set_true' hj with rfl | hj'
    · rw [ho] at hu
      cases hu
      exact getD_set_true (hpre e he hb)
    · exact getD_set_true (hO.2 j u hu hj' e he hb)
  · rintro listed a w ⟨hO, hI⟩ hr
    exact hend _ _ _ hI (all_listed hline hO.1 hr)
  · exfalso; revert h; simp [Array.getD]
  · have : (fun j => (Array.replicate ops.size false).getD j false) = fun _ => false := by
      funext j; simp [Array.getD]
    rw [this]
    exact h0

theorem wide_room (n : Nat) : Fence.wide.depth.isSome = true → 1 ≤ n := fun h => by cases h
/-- a scope that is gone through without a goto, at the wide fence -/
theorem wpIn_scope_wide {c : Code} {Q : Exit → Act → World → Prop} {a : Act} {w : World} (h : c.wpIn Fence.wide n P (Exit.noGoto Q) a w) : (Code.scope c).wpIn Fence.wide n P Q a w :=
  wpIn_wide.2 (wp_scope_straight (wpIn_wide.1 h))

end Go.Proofs.YtaeoghagpeihkaaDoor

namespace Go.Proofs.YtaeoghagpeihkaaDoor
open Go.RowKit
variable {P : Program}

/-- what is said of a value stays so while nothing that was there turns -/
def Stays (G : Value → World → Prop) : Prop := ∀ v W W', G v W → Below W.heap.size W W' → G v W'
theorem Stays.tt : Stays (fun _ _ => True) := fun _ _ _ _ _ => trivial

/-- what one operation does -/
def FlowOp (P : Program) (o : Oper) (a : Act) (W : World) (G : Value → World → Prop) : Prop :=
  (∃ v W', (execOp a.eval o).run P W = .ok (.value v) W' ∧ Below W.heap.size W W' ∧ G v W') ∨
  (∃ f args W1, (execOp a.eval o).run P W = .ok (.enter f args) W1 ∧ Below W.heap.size W W1 ∧ Calls P f args W1 fun e W' => ∃ v, e = .returned v ∧ Below W1.heap.size W1 W' ∧ G v W')
theorem FlowOp.call {o : Oper} {a : Act} {W : World} {G : Value → World → Prop} (f : FuncId) (args : Array Value) (h : (execOp a.eval o).run P W = .ok (.enter f args) W) (g : Calls P f args W fun e W' => ∃ v, e = .returned v ∧ Below W.heap.size W W' ∧ G v W') : FlowOp P o a W G :=
  .inr ⟨f, args, W, h, Below.refl _ _, g⟩

theorem op_at {x o y : Oper} (h : x = o) (e : x = y) : o = y := h ▸ e
theorem getD_puts {a : Act} {s t : Nat} {v : Value} (h : t ≠ s) : (a.put (some s) v).tmps.getD t undef = a.tmps.getD t undef := by
  simp only [Act.put, Array.getD_eq_getD_getElem?]
  rw [Array.getElem?_setIfInBounds_ne (Ne.symm h)]
theorem getD_puts_same {a : Act} {s : Nat} {v : Value} (h : s < a.tmps.size) : (a.put (some s) v).tmps.getD s undef = v := by
  simp [Act.put, Array.getD, h]
theorem size_puts (a : Act) (s : Nat) (v : Value) : (a.put (some s) v).tmps.size = a.tmps.size := by simp [Act.put]

/-- the frame behind the region: its operations' slots set, one behind the other -/
def puts (D : Nat → Nat) (vs : Nat → Value) : Nat → Act → Act
  | 0, a => a
  | n + 1, a => (puts D vs n a).put (some (D n)) (vs n)
theorem puts_size (D : Nat → Nat) (vs : Nat → Value) (n : Nat) (a : Act) : (puts D vs n a).tmps.size = a.tmps.size := by
  induction n with
  | zero => rfl
  | succ n ih => rw [puts, size_puts, ih]
theorem puts_defers (D : Nat → Nat) (vs : Nat → Value) (n : Nat) (a : Act) : (puts D vs n a).defers = a.defers := by
  induction n with
  | zero => rfl
  | succ n ih => exact ih
theorem puts_other (D : Nat → Nat) (vs : Nat → Value) (n : Nat) (a : Act) (s : Nat) (h : ∀ i, i < n → D i ≠ s) : (puts D vs n a).tmps.getD s undef = a.tmps.getD s undef := by
  induction n with
  | zero => rfl
  | succ n ih => rw [puts, getD_puts (Ne.symm (h n (by omega)))]; exact ih fun i hi => h i (by omega)
theorem puts_at (D : Nat → Nat) (vs : Nat → Value) (n : Nat) (a : Act) (hs : ∀ i, i < n → D i < a.tmps.size) (hi : ∀ i j, i < n → j < n → D i = D j → i = j) (k : Nat) (hk : k < n) : (puts D vs n a).tmps.getD (D k) undef = vs k := by
  induction n with
  | zero => omega
  | succ n ih =>
    rw [puts]
    by_cases h : k = n
    · subst h
      exact getD_puts_same (by rw [puts_size]; exact hs k (by omega))
    · rw [getD_puts (fun e => h (hi _ _ (by omega) (by omega) e))]
      exact ih (fun i h => hs i (by omega)) (fun i j h1 h2 => hi i j (by omega) (by omega)) (by omega)

theorem act_ext {a b : Act} (hs : a.tmps.size = b.tmps.size) (h : ∀ s, a.tmps.getD s undef = b.tmps.getD s undef) (hd : a.defers = b.defers) : a = b := by
  cases a; cases b
  simp only at hs h hd
  subst hd
  congr 1
  apply Array.ext hs
  intro i h1 h2
  have := h i
  simpa [Array.getD, h1, h2] using this

end Go.Proofs.YtaeoghagpeihkaaDoor

namespace Go.Proofs.YtaeoghagpeihkaaDoor
open Go.RowKit
variable {P : Program}

end Go.Proofs.YtaeoghagpeihkaaDoor

namespace Go.Proofs.YtaeoghagpeihkaaDoor
open Go.RowKit
variable {P : Program}

theorem wpList_run {ops : Array Oper} {rest : List Oper} {o : Oper} {a : Act} {Q : Exit → Act → World → Prop} {w w' : World} {v : Value} (hgd : o.guard = none) (hr : (execOp a.eval o).run P w = .ok (.value v) w') (h : wpList P ops Q rest (a.put o.dst v) w') : wpList P ops Q (o :: rest) a w :=
  wpList_plain hgd fun _ hK => by unfold Oper.wp; rw [hr]; exact hK _ _ h
theorem wpList_skip {ops : Array Oper} {rest : List Oper} {o : Oper} {a : Act} {Q : Exit → Act → World → Prop} {w w' : World} (hgd : o.guard = none) (hd : o.dst = none) (hr : (execOp a.eval o).run P w = .ok .skip w') (h : wpList P ops Q rest a w') : wpList P ops Q (o :: rest) a w :=
  wpList_plain hgd fun _ hK => by unfold Oper.wp; rw [hr]; exact hK _ _ (by first | exact h | (rw [hd]; exact h))

def updC (d : Nat → Bool) (i : Nat) : Nat → Bool := fun j => if j = i then true else d j
def updW (vs : Nat → Value) (i : Nat) (v : Value) : Nat → Value := fun j => if j = i then v else vs j

end Go.Proofs.YtaeoghagpeihkaaDoor

namespace Go.Proofs.YtaeoghagpeihkaaDoor
open Go.RowKit

theorem bel_set {B b i : Nat} {v : Value} {w w' : World} (hb : B ≤ b) (h : Below B w w') : Below B w (w'.setCell ⟨b, i, none⟩ v) := h.setCell (p := ⟨b, i, none⟩) hb v
theorem bel_alloc {B : Nat} {o : Obj} {w w' : World} (h : Below B w w') (hb : B ≤ w'.heap.size) : Below B w (w'.alloc o) := h.alloc hb o
theorem stays {W W' : World} {k : Nat} {o : Obj} (h : W.heap[k]? = some o) (hb : Below W.heap.size W W') : W'.heap[k]? = some o := (hb.block _ (Array.getElem?_eq_some_iff.1 h).1).trans h
theorem new_block (w : World) (o : Obj) : Below w.heap.size w (w.alloc o) ∧ (w.alloc o).heap[w.heap.size]? = some o := ⟨bel_alloc (Below.refl _ _) (Nat.le_refl _), heap_alloc_last w o⟩
theorem set_block (W : World) (b i : Nat) (cs : Array Value) (t : TypeId) (v : Value) (h : W.heap[b]? = some (.cells cs t (0, 0))) : (W.setCell ⟨b, i, none⟩ v).heap[b]? = some (.cells (cs.setIfInBounds i v) t (0, 0)) := by
  have := heap_setCell_same W b i cs t v h
  exact this
theorem set_other (W : World) (b i k : Nat) (v : Value) (h : k ≠ b) : (W.setCell ⟨b, i, none⟩ v).heap[k]? = W.heap[k]? := Below.heap_setCell _ _ _ _ h
theorem exec_store {P : Program} {o : Oper} {a : Act} {W W' : World} (ty : TypeId) (x y : Operand) (ho : o.op = .store ty x y) (p v : Value) (hx : a.eval x = p) (hy : a.eval y = v) (hr : (Instr.storeAt ty p v).run P W = .ok () W') : (execOp a.eval o).run P W = .ok .skip W' := by
  unfold execOp
  simp only [ho, hx, hy, Sem.run_bind, hr, Result.andThen_ok]
  rfl
theorem exec_load_row {P : Program} {o : Oper} {a : Act} {W : World} (ty : TypeId) (x : Operand) (ho : o.op = .load ty x) (b : Nat) (cs : Array Value) (t : TypeId) (d : TypeDesc) (hx : a.eval x = .pointer (some ⟨b, 0, none⟩)) (h : W.heap[b]? = some (.cells cs t (0, 0))) (hu : P.underlying ty = some d) (hd : (match d with | .struct _ | .array _ _ => true | _ => false) = true) (hi : (P.info? ty).map (·.size) = some cs.size) :
    (execOp a.eval o).run P W = .ok (.value (.agg cs)) W := by
  have hr : (Instr.loadAt ty (.pointer (some ⟨b, 0, none⟩))).run P W = .ok (.agg cs) W := by
    simp only [Instr.loadAt, Instr.sureAddr, Sem.run_bind, Sem.run_pure, Result.andThen]
    exact run_loadVar_row W b t ty cs (0, 0) d h hu hd hi
  unfold execOp
  simp only [ho, hx, Sem.run_bind, hr, Result.andThen_ok]
  rfl
/-- cells that a run of values replaces -/
def splice (cs : Array Value) (o : Nat) : List Value → Array Value
  | [] => cs
  | v :: r => splice (cs.setIfInBounds o v) (o + 1) r
theorem setCells_block (t : TypeId) (b : Nat) : ∀ (vs : List Value) (o : Nat) (cs : Array Value) (W : World), W.heap[b]? = some (.cells cs t (0, 0)) → (W.setCells b o vs).heap[b]? = some (.cells (splice cs o vs) t (0, 0))
  | [], _, _, _, h => h
  | v :: r, o, cs, W, h => by rw [World.setCells]; exact setCells_block t b r (o + 1) _ _ (set_block W b o cs t v h)
theorem setCells_other (b : Nat) : ∀ (vs : List Value) (o : Nat) (W : World) (k : Nat), k ≠ b → (W.setCells b o vs).heap[k]? = W.heap[k]?
  | [], _, _, _, _ => rfl
  | v :: r, o, W, k, h => by rw [World.setCells, setCells_other b r (o + 1) _ k h, set_other W b o k v h]
theorem setCells_below {B b : Nat} (hb : B ≤ b) : ∀ (vs : List Value) (o : Nat) (w W : World), Below B w W → Below B w (W.setCells b o vs)
  | [], _, _, _, h => h
  | v :: r, o, w, W, h => by rw [World.setCells]; exact setCells_below hb r (o + 1) w _ (bel_set hb h)
/-- a struct into the midst of a block, as an operation's run -/
theorem run_store_row {P : Program} (W : World) (b o : Nat) (cs : Array Value) (t ty : TypeId) (vs : Array Value) (h : W.heap[b]? = some (.cells cs t (0, 0))) (ho : o + vs.size ≤ cs.size) (hi : (P.info? ty).map (·.size) = some vs.size) (h1 : vs.all (·.oneCell') = true) :
    (Instr.storeAt ty (.pointer (some ⟨b, o, none⟩)) (.agg vs)).run P W = .ok () (W.setCells b o vs.toList) :=
  run_storeAt_mid W b o ty vs (fun j hj => ⟨by rw [cell_of_row _ _ _ _ _ _ h]; simp; omega, frozen_of_row _ _ _ _ _ h⟩) hi h1
/-- a struct out of the midst of a block, as an operation's run -/
theorem exec_load_mid {P : Program} {o : Oper} {a : Act} {W : World} (ty : TypeId) (x : Operand) (ho : o.op = .load ty x) (b off : Nat) (cs : List Value) (d : TypeDesc) (hx : a.eval x = .pointer (some ⟨b, off, none⟩)) (hr : W.rangeAt b off cs) (hu : P.underlying ty = some d) (hd : d.isRow = true) (hi : (P.info? ty).map (·.size) = some cs.length) :
    (execOp a.eval o).run P W = .ok (.value (.agg cs.toArray)) W := by
  unfold execOp
  simp only [ho, hx, Instr.loadAt, Instr.sureAddr, Sem.run_bind, Sem.run_pure, Result.andThen_ok, run_loadVar_mid W b off ty cs d hr hu hd hi]
theorem owns_mono {w : World} {B B' n sz : Nat} {e : TypeId} {v : Value} {xs : List Value} (h : w.ownsRow B e sz v n xs) (hB : B' ≤ B) : w.ownsRow B' e sz v n xs := by
  obtain ⟨h1, h2⟩ := h
  refine ⟨h1, ?_⟩
  rcases h2 with h2 | ⟨g, cap, cur, hv, hb, r⟩
  · exact .inl h2
  · exact .inr ⟨g, cap, cur, hv, Nat.le_trans hB hb, r⟩
theorem owns_form {w : World} {B n sz : Nat} {e : TypeId} {v : Value} {xs : List Value} (h : w.ownsRow B e sz v n xs) : ∃ ao cap, v = .slice ao n cap := by
  rcases h.2 with ⟨rfl, h0⟩ | ⟨g, cap, cur, rfl, _⟩
  · exact ⟨none, 0, by rw [h0]⟩
  · exact ⟨_, _, rfl⟩
/-- a row kept while other blocks turn -/
theorem owns_same {w w' : World} {B sz n : Nat} {e : TypeId} {v : Value} {xs : List Value} (h : w.ownsRow B e sz v n xs) (hk : ∀ k, v.ownBlock = some k → w'.heap[k]? = w.heap[k]?) : w'.ownsRow B e sz v n xs := by
  obtain ⟨h1, h2⟩ := h
  refine ⟨h1, ?_⟩
  rcases h2 with h2 | ⟨g, cap, cur, rfl, hb, hg, r⟩
  · exact .inl h2
  · exact .inr ⟨g, cap, cur, rfl, hb, (hk g rfl).trans hg, r⟩
theorem owns_kind {w : World} {B sz n : Nat} {e : TypeId} {v : Value} {xs : List Value} (h : w.ownsRow B e sz v n xs) (k : Nat) (hk : v.ownBlock = some k) : ∃ cur, w.heap[k]? = some (.cells cur e (0, 0)) := by
  rcases h.2 with ⟨rfl, -⟩ | ⟨g, cap, cur, rfl, hb, hg, r⟩
  · cases hk
  · cases hk
    exact ⟨_, hg⟩
theorem wpListIn_run {F : Fence} {n : Nat} {P : Program} {ops : Array Oper} {rest : List Oper} {o : Oper} {a : Act} {Q : Exit → Act → World → Prop} {w w' : World} {v : Value} (hfn : ∀ f, F.fn f) (hgd : o.guard = none) (hnd : ∀ c, o.op ≠ .defer c) (hr : (execOp a.eval o).run P w = .ok (.value v) w') (h : wpListIn F n P ops Q rest (a.put o.dst v) w') : wpListIn F n P ops Q (o :: rest) a w :=
  wpListIn_plain hgd fun K hK => by
    unfold Oper.wpIn
    refine ⟨fun f _ => hfn f, ?_⟩
    rw [Oper.semAt_eq _ _ _ hnd, hr]
    exact hK _ _ h
/-- append(s, a row of m elements), as one operation, whatever the frame -/
theorem op_append_row (t e : TypeId) (i0 : TypeInfo) (z : Value) (size bytes : Nat) (ht : Tryd.prog.underlying t = some (.slice e)) (hi : Tryd.prog.info? e = some i0) (hz0 : i0.zero = some z) (hz1 : i0.size = size) (hz2 : i0.bytes = bytes) (hzs : z.cells.size = size) (hsz : 0 < size)
    (w : World) (base : Nat) (v : Value) (n : Nat) (xs : List Value) (g m : Nat) (news : List Value) (hown : w.ownsRow base e size v n xs) (hg : w.heap[g]? = some (.cells news.toArray e (0, 0))) (hn : news.length = m * size) (h1 : ∀ u ∈ news, u.oneCell' = true) (hm : 0 < m) (hl : (n + m) * bytes ≤ 140737488355328) (hl2 : n + m ≤ 1000000000) (hbase : base ≤ w.heap.size) :
    ∃ g' cap' w', (∀ (a : Act) (o : Oper) (s x : Nat), a.tmps.getD s undef = v → a.tmps.getD x undef = .slice (some ⟨g, 0, none⟩) m m → o.op = .call { callee := .builtin .append, args := #[.tmp s, .tmp x], argTypes := #[t, t] } → o.type = t → (execOp a.eval o).run Tryd.prog w = .ok (.value (.slice (some ⟨g', 0, none⟩) (n + m) cap')) w') ∧ w'.ownsRow base e size (.slice (some ⟨g', 0, none⟩) (n + m) cap') (n + m) (xs ++ news) ∧ w.grownBy w' v.ownBlock ∧ (v.ownBlock = some g' ∨ g' = w.heap.size) := by
  obtain ⟨g', cap', w', hr, h2, h3, h4, -⟩ := run_append_lies (P := Tryd.prog) w t t base e i0 z size bytes ht hi hz0 hz1 hz2 hzs hsz v n xs hown ⟨g, 0, none⟩ m m news hn
    (by
      intro j y hj
      have := cell_of_row w g j _ _ _ hg
      have e : (⟨g, 0, none⟩ : Addr).add j = ⟨g, j, none⟩ := by unfold Addr.add; split <;> simp_all
      rw [e, this]
      simpa using hj) h1 hm (by unfold maxLen; omega) hl hbase _ rfl
  refine ⟨g', cap', w', fun a o s x hs hx ho hty => ?_, h2, h3, h4⟩
  unfold execOp
  simp only [ho, hty, resolve, invoke, builtin, Sem.run_bind, Sem.run_pure, Result.andThen_ok, List.map_toArray, List.map_cons, List.map_nil, Act.eval, hs, hx, hr]
theorem owns_kept {w w' : World} {B n sz n2 sz2 : Nat} {e e2 : TypeId} {v v2 : Value} {xs xs2 : List Value} (h1 : w.ownsRow B e sz v n xs) (h2 : w.ownsRow B e2 sz2 v2 n2 xs2) (hne : e ≠ e2) (hg : w.grownBy w' v.ownBlock) : w'.ownsRow B e2 sz2 v2 n2 xs2 := by
  refine World.ownsRow.kept h2 hg ?_
  cases hv : v2.ownBlock with
  | none => exact .inl rfl
  | some k =>
    refine .inr fun e => ?_
    obtain ⟨c, hc⟩ := owns_kind h2 k hv
    obtain ⟨c', hc'⟩ := owns_kind h1 k e.symm
    rw [hc] at hc'
    injection hc' with hc'
    injection hc' with _ hc' _
    exact hne hc'.symm
theorem owns_below {w w' : World} {B n sz : Nat} {e : TypeId} {v : Value} {xs : List Value} (h : w.ownsRow B e sz v n xs) (hb : Below w.heap.size w w') : w'.ownsRow B e sz v n xs :=
  World.ownsRow.kept h (row := none) ⟨hb.os, hb.tape, hb.output, hb.size, fun k hk _ => hb.block k hk⟩ (by
    cases hv : v.ownBlock with
    | none => exact .inl rfl
    | some k => exact .inr (by simp))
theorem row_grown {w w' : World} {B n sz x : Nat} {e e2 : TypeId} {v : Value} {xs : List Value} {cs : Array Value} (h1 : w.ownsRow B e sz v n xs) (hx : w.heap[x]? = some (.cells cs e2 (0, 0))) (hne : e ≠ e2) (hg : w.grownBy w' v.ownBlock) : w'.heap[x]? = some (.cells cs e2 (0, 0)) :=
  (hg.block x (Array.getElem?_eq_some_iff.1 hx).1 (fun e3 => by
    obtain ⟨c, hc⟩ := owns_kind h1 x e3.symm
    rw [hx] at hc
    injection hc with hc
    injection hc with _ hc _
    exact hne hc.symm)).trans hx
theorem lit1 (c : UInt8) (i : Nat) (hi : i < 1) : (#[Value.int .u8 (c.toNat : Int)])[i]? = some (.int .u8 (([c].getD i 0).toNat : Int)) := by
  obtain rfl : i = 0 := by omega
  rfl
theorem exec_neq_agg {P : Program} {o : Oper} {a : Act} {W : World} (ty : TypeId) (x y : Operand) (ty' : TypeId) (ho : o.op = .binOp .neq ty x y ty') (vx vy : Array Value) (b : Bool) (hx : a.eval x = .agg vx) (hy : a.eval y = .agg vy) (hm : P.eqGuardType P.depth ty = false) (hr : (binOp .neq ty (.agg vx) (.agg vy)).run P W = .ok (.bool b) W) :
    (execOp a.eval o).run P W = .ok (.value (.bool b)) W := by
  unfold execOp
  simp only [ho, hx, hy, Sem.run_bind, run_eqGuard_agg W .neq ty x y vx vy hm, hr, Result.andThen_ok]
  rfl
theorem exec_buildSlice {P : Program} {o : Oper} {a : Act} {W : World} (t : TypeId) (len : Nat) (parts : Array (Nat × Operand)) (ho : o.op = .buildSlice t len parts) (ps : Array (Nat × Value)) (hp : (parts.map fun (i, x) => (i, a.eval x)) = ps) (v : Value) (W' : World) (hr : (Instr.buildSlice t len ps).run P W = .ok v W') : (execOp a.eval o).run P W = .ok (.value v) W' := by
  subst hp
  unfold execOp
  simp only [ho, Sem.run_bind, hr, Result.andThen_ok]
  rfl
end Go.Proofs.YtaeoghagpeihkaaDoor

namespace Go.Proofs.YtaeoghagpeihkaaDoor
open Go.RowKit

structure AppJ (w0 : World) (B : Nat) (e : TypeId) (sz : Nat) (v : Value) (n : Nat) (xs news : List Value) (m : Nat) (dl da : Bool) (vl va : Value) (W : World) : Prop where
  low : Below B w0 W
  siz : w0.heap.size ≤ W.heap.size
  bs : B ≤ w0.heap.size
  o : da = true → dl = true
  own0 : da = false → W.ownsRow B e sz v n xs
  lit : dl = true → da = false → ∃ g, vl = .slice (some ⟨g, 0, none⟩) m m ∧ W.heap[g]? = some (.cells news.toArray e (0, 0))
  own1 : da = true → W.ownsRow B e sz va (n + m) (xs ++ news)
theorem AppJ.start {w0 : World} {B : Nat} {e : TypeId} {sz : Nat} {v : Value} {n : Nat} {xs : List Value} (news : List Value) (m : Nat) (vl va : Value) (hB : B ≤ w0.heap.size) (ho : w0.ownsRow B e sz v n xs) : AppJ w0 B e sz v n xs news m false false vl va w0.drew :=
  ⟨(Below.refl _ _).drew, Nat.le_refl _, hB, (fun e => by cases e), fun _ => ho, (fun e => by cases e), (fun e => by cases e)⟩
theorem AppJ.builds {w0 : World} {B : Nat} {e : TypeId} {sz : Nat} {v : Value} {n : Nat} {xs news : List Value} {m : Nat} {da : Bool} {vl vl' va : Value} {W : World} (h : AppJ w0 B e sz v n xs news m false da vl va W) (hv : vl' = .slice (some ⟨W.heap.size, 0, none⟩) m m) : AppJ w0 B e sz v n xs news m true da vl' va (W.alloc (.cells news.toArray e)) := by
  have hda : da = false := by cases e : da with | false => rfl | true => have := h.o e; cases this
  subst hda
  have g := (new_block W (.cells news.toArray e)).1
  exact ⟨h.low.trans (g.mono (Nat.le_trans h.bs h.siz)), Nat.le_trans h.siz g.size, h.bs, fun _ => rfl, fun _ => owns_below (h.own0 rfl) g, fun _ _ => ⟨_, hv, (new_block W _).2⟩, (fun e => by cases e)⟩
theorem AppJ.appends {w0 : World} {B : Nat} {e : TypeId} {sz : Nat} {v : Value} {n : Nat} {xs news : List Value} {m : Nat} {vl va va' : Value} {W W' : World} (h : AppJ w0 B e sz v n xs news m true false vl va W) (ho : W'.ownsRow B e sz va' (n + m) (xs ++ news)) (hg : W.grownBy W' v.ownBlock) : AppJ w0 B e sz v n xs news m true true vl va' W' :=
  ⟨h.low.grown hg (Nat.le_trans h.bs h.siz) (fun k hk => (World.ownsRow.lt (h.own0 rfl) k hk).1), Nat.le_trans h.siz hg.size, h.bs, fun _ => rfl, (fun e => by cases e), (fun _ e => by cases e), fun _ => ho⟩

end Go.Proofs.YtaeoghagpeihkaaDoor

namespace Go.Proofs.YtaeoghagpeihkaaDoor
open Go.RowKit
variable {P : Program}

theorem wpIn_flowM {F0 : Fence} {n0 : Nat} (hfn : ∀ f, F0.fn f) (hdep0 : F0.depth.isSome = true → 1 ≤ n0) {ops : Array Oper} {Q : Exit → Act → World → Prop} {id : Nat} {a0 : Act} {w : World} (hm : P.follows .mixedOrders = true) (hline : lineUp ops = true) (m n : Nat) (hsz : ops.size = m) (ys : Nat → Nat)
    (D : Nat → Nat) (hD : ((List.range n).all fun j => (ops.getD (ys j) default).dst == some (D j)) = true)
    (hst : ((List.range m).all fun i => (List.range n).any (fun j => ys j == i) || (ops.getD i default).dst == none) = true)
    (hyi : ((List.range n).all fun i => (List.range i).all fun j => ys i != ys j) = true) (hyl : ((List.range n).all fun j => decide (ys j < m)) = true)
    (hDs : ((List.range n).all fun i => decide (D i < a0.tmps.size)) = true)
    (hDi : ((List.range n).all fun i => (List.range i).all fun j => D i != D j) = true)
    (hnd : ((List.range m).all fun i => match (ops.getD i default).op with | .defer _ => false | _ => true) = true)
    (F : Nat → Value → Prop) (J : (Nat → Bool) → (Nat → Value) → World → Prop)
    (h0 : ∀ vs, J (fun _ => false) vs w.drew)
    (hstep : ∀ (i : Nat) (o : Oper) (a : Act) (W : World) (d : Nat → Bool) (vs : Nat → Value), i < m → ops.getD i default = o → d i = false → J d vs W →
      (∀ s, ((List.range n).all fun j => D j != s) = true → a.tmps.getD s undef = a0.tmps.getD s undef) →
      (∀ k, (o.after.any fun e => Region.binds .any e && e.on == k) = true → d k = true) →
      (∀ j, j < n → d (ys j) = true → F j (vs j) ∧ a.tmps.getD (D j) undef = vs j) →
      ((∀ k b, o.guard = some (k, b) → ∃ j, j < n ∧ ys j = k ∧ a.tmps.getD (D j) undef = .bool b) ∧
        ((∃ j, j < n ∧ ys j = i ∧ ∃ v W', (execOp a.eval o).run P W = .ok (.value v) W' ∧ F j v ∧ J (updC d i) (updW vs j v) W') ∨
        (o.dst = none ∧ ∃ W', (execOp a.eval o).run P W = .ok .skip W' ∧ J (updC d i) vs W') ∨
        (∃ j, j < n ∧ ys j = i ∧ ∃ f args W1, (execOp a.eval o).run P W = .ok (.enter f args) W1 ∧ CallsIn F0 (n0 - 1) P f args W1 fun e W' => ∃ v, e = .returned v ∧ F j v ∧ J (updC d i) (updW vs j v) W'))) ∨
      (∃ k b j, o.guard = some (k, b) ∧ j < n ∧ ys j = k ∧ a.tmps.getD (D j) undef ≠ .bool b ∧
        ((∃ j, j < n ∧ ys j = i ∧ F j undef ∧ J (updC d i) (updW vs j undef) W) ∨ (o.dst = none ∧ J (updC d i) vs W))))
    (hend : ∀ (d : Nat → Bool) (vs : Nat → Value) (W : World), (∀ i, i < m → d i = true) → J d vs W → (∀ j, j < n → F j (vs j)) → Q .normal (puts D vs n a0) W) : (Code.region id ops true).wpIn F0 n0 P Q a0 w := by
  have hyl' : ∀ j, j < n → ys j < m := fun j hj => by simpa using List.all_eq_true.1 hyl j (List.mem_range.2 hj)
  have hD' : ∀ j o, j < n → ops[ys j]? = some o → o.dst = some (D j) := by
    intro j o hj ho
    have h1 := List.all_eq_true.1 hD j (List.mem_range.2 hj)
    have h2 : ops.getD (ys j) default = o := by
      have := (Array.getElem?_eq_some_iff.1 ho).2
      simp [Array.getD, hsz, hyl' j hj, this]
    rw [h2] at h1
    simpa using h1
  have hDs' : ∀ i, i < n → D i < a0.tmps.size := fun i hi => by simpa using List.all_eq_true.1 hDs i (List.mem_range.2 hi)
  have inj : ∀ (f : Nat → Nat), ((List.range n).all fun i => (List.range i).all fun j => f i != f j) = true → ∀ i j, i < n → j < n → f i = f j → i = j := by
    intro f hf
    have key : ∀ i j, i < n → j < i → f i ≠ f j := fun i j hi hj => by
      have h1 := List.all_eq_true.1 hf i (List.mem_range.2 hi)
      have h2 := List.all_eq_true.1 h1 j (List.mem_range.2 hj)
      simpa using h2
    intro i j hi hj he
    rcases Nat.lt_trichotomy i j with h | h | h
    · exact absurd he.symm (key j i hj h)
    · exact h
    · exact absurd he (key i j hi h)
  have hDi' := inj D hDi
  have hyi' := inj ys hyi
  refine wpIn_region_inv hm hline (fun d a W => a.tmps.size = a0.tmps.size ∧ a.defers = a0.defers ∧
    (∀ s, (∀ j, j < n → D j ≠ s) → a.tmps.getD s undef = a0.tmps.getD s undef) ∧ ∃ vs, (∀ j, j < n → d (ys j) = true → F j (vs j) ∧ a.tmps.getD (D j) undef = vs j) ∧ J d vs W) ?_ ?_ ?_
  · exact ⟨rfl, rfl, fun _ _ => rfl, fun _ => undef, fun _ _ h => (by cases h), h0 _⟩
  · rintro d d' i o a W hdep ⟨hasz, hdf, hfr, vs, hFd, hJ⟩ ho hdi hd'i hdne hready
    have hi : i < m := by rw [← hsz]; exact (Array.getElem?_eq_some_iff.1 ho).1
    have hgo : ops.getD i default = o := by
      have := (Array.getElem?_eq_some_iff.1 ho).2
      simp [Array.getD, hsz, hi, this]
    have hndf : ∀ c, o.op ≠ .defer c := by
      have h1 := List.all_eq_true.1 hnd i (List.mem_range.2 hi)
      rw [hgo] at h1
      intro c hc
      rw [hc] at h1
      cases h1
    have hdd : d' = updC d i := by
      funext j
      unfold updC
      by_cases hj : j = i
      · subst hj; rw [if_pos rfl]; exact hd'i
      · rw [if_neg hj]; exact hdne j hj
    have hfr' : ∀ s, ((List.range n).all fun j => D j != s) = true → a.tmps.getD s undef = a0.tmps.getD s undef := fun s hs => hfr s fun j hj => by
      have := List.all_eq_true.1 hs j (List.mem_range.2 hj)
      simpa using this
    have hst2 := hstep i o a W d vs hi hgo hdi hJ hfr' (fun k hk => by
      obtain ⟨u, hu, hbu⟩ := Array.any_eq_true.1 hk
      simp only [Bool.and_eq_true, beq_iff_eq] at hbu
      obtain ⟨hb, rfl⟩ := hbu
      exact hready _ (Array.getElem_mem hu) hb) hFd
    have hval : ∀ j, j < n → (ops[ys j]?).bind (·.dst) = some (D j) ∧ a.tmps[D j]? = some (a.tmps.getD (D j) undef) := by
      intro j hj
      have hlt : ys j < ops.size := by rw [hsz]; exact hyl' j hj
      have h3 : ops[ys j]? = some ops[ys j] := by simp [hlt]
      refine ⟨by rw [h3]; exact hD' j _ hj h3, ?_⟩
      have h5 : D j < a.tmps.size := by rw [hasz]; exact hDs' j hj
      simp [Array.getD, h5]
    have yld : ∀ j, j < n → ∀ v, F j v → ∀ W', J (updC d i) (updW vs j v) W' → ys j = i → ((a.put (some (D j)) v).tmps.size = a0.tmps.size ∧ (a.put (some (D j)) v).defers = a0.defers ∧
        (∀ s, (∀ k, k < n → D k ≠ s) → (a.put (some (D j)) v).tmps.getD s undef = a0.tmps.getD s undef) ∧ ∃ vs, (∀ k, k < n → d' (ys k) = true → F k (vs k) ∧ (a.put (some (D j)) v).tmps.getD (D k) undef = vs k) ∧ J d' vs W') := by
      intro j hjn v hv W' hJ' hyj
      subst hyj
      refine ⟨by rw [size_puts]; exact hasz, hdf, fun s hs => by rw [getD_puts (Ne.symm (hs j hjn))]; exact hfr s hs, updW vs j v, fun k hk hdk => ?_, by rw [hdd]; exact hJ'⟩
      by_cases hki : k = j
      · subst hki
        unfold updW
        rw [if_pos rfl]
        exact ⟨hv, getD_puts_same (by rw [hasz]; exact hDs' k hk)⟩
      · unfold updW
        rw [if_neg hki, getD_puts (fun e => hki (hDi' _ _ hk hjn e))]
        exact hFd k hk (by rw [← hdne (ys k) (fun e => hki (hyi' _ _ hk hjn e))]; exact hdk)
    have skp : o.dst = none → ∀ W', J (updC d i) vs W' → (a.tmps.size = a0.tmps.size ∧ a.defers = a0.defers ∧
        (∀ s, (∀ k, k < n → D k ≠ s) → a.tmps.getD s undef = a0.tmps.getD s undef) ∧ ∃ vs, (∀ k, k < n → d' (ys k) = true → F k (vs k) ∧ a.tmps.getD (D k) undef = vs k) ∧ J d' vs W') := by
      intro hdst W' hJ'
      have hno : ∀ k, k < n → ys k ≠ i := by
        intro k hk e
        subst e
        have := hD' k o hk ho
        rw [hdst] at this
        cases this
      exact ⟨hasz, hdf, hfr, vs, fun k hk hdk => hFd k hk (by rw [← hdne (ys k) (hno k hk)]; exact hdk), by rw [hdd]; exact hJ'⟩
    unfold wpOpIn
    rw [ho]
    simp only
    rcases hst2 with ⟨hgw, hst2⟩ | ⟨k, b, j, hgg, hjn, hjk, hne, hst2⟩
    · have hw : Region.wanted o (yielded ops a.tmps) = true := by
        unfold Region.wanted
        cases hgg : o.guard with
        | none => rfl
        | some p =>
          obtain ⟨k, b⟩ := p
          obtain ⟨j, hjn, rfl, hjb⟩ := hgw k b hgg
          obtain ⟨h1, h2⟩ := hval j hjn
          rw [hjb] at h2
          simp [yielded, h1, h2]
      rw [if_pos hw]
      refine ⟨fun f _ => hfn f, ?_⟩
      rw [Oper.semAt_eq _ _ _ hndf]
      rcases hst2 with ⟨j, hjn, hyj, v, W', hrun, hv, hJ'⟩ | ⟨hdst, W', hrun, hJ'⟩ | ⟨j, hjn, hyj, f, args, W1, hrun, hcall⟩
      · rw [hrun]
        show _ ∧ _
        rw [hD' j o hjn (by rw [hyj]; exact ho)]
        exact yld j hjn v hv W' hJ' hyj
      · rw [hrun]
        show _ ∧ _
        rw [hdst]
        exact skp hdst W' hJ'
      · rw [hrun]
        refine ⟨hdep0, hcall.mono ?_⟩
        rintro e W' ⟨v, rfl, hv, hJ'⟩
        show _ ∧ _
        rw [hD' j o hjn (by rw [hyj]; exact ho)]
        exact yld j hjn v hv W' hJ' hyj
    · have hw : ¬ Region.wanted o (yielded ops a.tmps) = true := by
        unfold Region.wanted
        subst hjk
        obtain ⟨h1, h2⟩ := hval j hjn
        rw [hgg]
        simp only [yielded, h1, Option.bind_some, h2]
        intro hc
        apply hne
        revert hc
        generalize a.tmps.getD (D j) undef = u
        cases u <;> simp
      rw [if_neg hw]
      refine ⟨fun f _ => hfn f, ?_⟩
      rcases hst2 with ⟨j, hjn, hyj, hv, hJ'⟩ | ⟨hdst, hJ'⟩
      · rw [hD' j o hjn (by rw [hyj]; exact ho)]
        exact yld j hjn undef hv W hJ' hyj
      · rw [hdst]
        exact skp hdst W hJ'
  · rintro d a W ⟨hasz, hdf, hfr, vs, hFd, hJ⟩ hall
    rw [hsz] at hall
    have he : a = puts D vs n a0 := by
      refine act_ext (by rw [puts_size]; exact hasz) (fun s => ?_) (by rw [puts_defers]; exact hdf)
      by_cases hs : ∃ j, j < n ∧ D j = s
      · obtain ⟨j, hj, rfl⟩ := hs
        rw [puts_at D _ n a0 hDs' hDi' j hj]
        exact (hFd j hj (hall _ (hyl' j hj))).2
      · rw [puts_other _ _ _ _ _ (fun i hi h => hs ⟨i, hi, h⟩)]
        exact hfr s fun j hj h => hs ⟨j, hj, h⟩
    rw [he]
    exact hend d vs W hall hJ fun j hj => (hFd j hj (hall _ (hyl' j hj))).1

end Go.Proofs.YtaeoghagpeihkaaDoor

namespace Go.Proofs.YtaeoghagpeihkaaDoor
open Go.RowKit
variable {P : Program}

theorem wpIn_flowM2 {F0 : Fence} {n0 : Nat} (hfn : ∀ f, F0.fn f) (hdep0 : F0.depth.isSome = true → 1 ≤ n0) {ops : Array Oper} {Q : Exit → Act → World → Prop} {id : Nat} {a0 : Act} {w : World} (hm : P.follows .mixedOrders = true) (hline : lineUp ops = true) (m n : Nat) (hsz : ops.size = m) (ys : Nat → Nat)
    (D : Nat → Nat) (hD : ((List.range n).all fun j => (ops.getD (ys j) default).dst == some (D j)) = true)
    (hst : ((List.range m).all fun i => (List.range n).any (fun j => ys j == i) || (ops.getD i default).dst == none) = true)
    (hyi : ((List.range n).all fun i => (List.range i).all fun j => ys i != ys j) = true) (hyl : ((List.range n).all fun j => decide (ys j < m)) = true)
    (hDs : ((List.range n).all fun i => decide (D i < a0.tmps.size)) = true)
    (hDi : ((List.range n).all fun i => (List.range i).all fun j => D i != D j) = true)
    (hnd : ((List.range m).all fun i => match (ops.getD i default).op with | .defer _ => false | _ => true) = true)
    (F : Nat → Value → Prop) (J : (Nat → Bool) → (Nat → Value) → World → Prop)
    (h0 : ∀ vs, J (fun _ => false) vs w.drew)
    (hstep : ∀ (i : Nat) (o : Oper) (a : Act) (W : World) (d : Nat → Bool) (vs : Nat → Value), i < m → ops.getD i default = o → d i = false → J d vs W →
      (∀ s, ((List.range n).all fun j => D j != s) = true → a.tmps.getD s undef = a0.tmps.getD s undef) →
      (∀ k, (o.after.any fun e => Region.binds .any e && e.on == k) = true → d k = true) →
      (∀ j, j < n → d (ys j) = true → F j (vs j) ∧ a.tmps.getD (D j) undef = vs j) →
      (∀ j, j < n → d (ys j) = false → a.tmps.getD (D j) undef = a0.tmps.getD (D j) undef) →
      ((∀ k b, o.guard = some (k, b) → ∃ j, j < n ∧ ys j = k ∧ a.tmps.getD (D j) undef = .bool b) ∧
        ((∃ j, j < n ∧ ys j = i ∧ ∃ v W', (execOp a.eval o).run P W = .ok (.value v) W' ∧ F j v ∧ J (updC d i) (updW vs j v) W') ∨
        (o.dst = none ∧ ∃ W', (execOp a.eval o).run P W = .ok .skip W' ∧ J (updC d i) vs W') ∨
        (∃ j, j < n ∧ ys j = i ∧ ∃ f args W1, (execOp a.eval o).run P W = .ok (.enter f args) W1 ∧ CallsIn F0 (n0 - 1) P f args W1 fun e W' => ∃ v, e = .returned v ∧ F j v ∧ J (updC d i) (updW vs j v) W'))) ∨
      (∃ k b j, o.guard = some (k, b) ∧ j < n ∧ ys j = k ∧ a.tmps.getD (D j) undef ≠ .bool b ∧
        ((∃ j, j < n ∧ ys j = i ∧ F j undef ∧ J (updC d i) (updW vs j undef) W) ∨ (o.dst = none ∧ J (updC d i) vs W))))
    (hend : ∀ (d : Nat → Bool) (vs : Nat → Value) (W : World), (∀ i, i < m → d i = true) → J d vs W → (∀ j, j < n → F j (vs j)) → Q .normal (puts D vs n a0) W) : (Code.region id ops true).wpIn F0 n0 P Q a0 w := by
  have hyl' : ∀ j, j < n → ys j < m := fun j hj => by simpa using List.all_eq_true.1 hyl j (List.mem_range.2 hj)
  have hD' : ∀ j o, j < n → ops[ys j]? = some o → o.dst = some (D j) := by
    intro j o hj ho
    have h1 := List.all_eq_true.1 hD j (List.mem_range.2 hj)
    have h2 : ops.getD (ys j) default = o := by
      have := (Array.getElem?_eq_some_iff.1 ho).2
      simp [Array.getD, hsz, hyl' j hj, this]
    rw [h2] at h1
    simpa using h1
  have hDs' : ∀ i, i < n → D i < a0.tmps.size := fun i hi => by simpa using List.all_eq_true.1 hDs i (List.mem_range.2 hi)
  have inj : ∀ (f : Nat → Nat), ((List.range n).all fun i => (List.range i).all fun j => f i != f j) = true → ∀ i j, i < n → j < n → f i = f j → i = j := by
    intro f hf
    have key : ∀ i j, i < n → j < i → f i ≠ f j := fun i j hi hj => by
      have h1 := List.all_eq_true.1 hf i (List.mem_range.2 hi)
      have h2 := List.all_eq_true.1 h1 j (List.mem_range.2 hj)
      simpa using h2
    intro i j hi hj he
    rcases Nat.lt_trichotomy i j with h | h | h
    · exact absurd he.symm (key j i hj h)
    · exact h
    · exact absurd he (key i j hi h)
  have hDi' := inj D hDi
  have hyi' := inj ys hyi
  refine wpIn_region_inv hm hline (fun d a W => a.tmps.size = a0.tmps.size ∧ a.defers = a0.defers ∧
    (∀ s, (∀ j, j < n → D j ≠ s) → a.tmps.getD s undef = a0.tmps.getD s undef) ∧ (∀ j, j < n → d (ys j) = false → a.tmps.getD (D j) undef = a0.tmps.getD (D j) undef) ∧ ∃ vs, (∀ j, j < n → d (ys j) = true → F j (vs j) ∧ a.tmps.getD (D j) undef = vs j) ∧ J d vs W) ?_ ?_ ?_
  · exact ⟨rfl, rfl, fun _ _ => rfl, fun _ _ _ => rfl, fun _ => undef, fun _ _ h => (by cases h), h0 _⟩
  · rintro d d' i o a W hdep ⟨hasz, hdf, hfr, hfz, vs, hFd, hJ⟩ ho hdi hd'i hdne hready
    have hi : i < m := by rw [← hsz]; exact (Array.getElem?_eq_some_iff.1 ho).1
    have hgo : ops.getD i default = o := by
      have := (Array.getElem?_eq_some_iff.1 ho).2
      simp [Array.getD, hsz, hi, this]
    have hndf : ∀ c, o.op ≠ .defer c := by
      have h1 := List.all_eq_true.1 hnd i (List.mem_range.2 hi)
      rw [hgo] at h1
      intro c hc
      rw [hc] at h1
      cases h1
    have hdd : d' = updC d i := by
      funext j
      unfold updC
      by_cases hj : j = i
      · subst hj; rw [if_pos rfl]; exact hd'i
      · rw [if_neg hj]; exact hdne j hj
    have hfr' : ∀ s, ((List.range n).all fun j => D j != s) = true → a.tmps.getD s undef = a0.tmps.getD s undef := fun s hs => hfr s fun j hj => by
      have := List.all_eq_true.1 hs j (List.mem_range.2 hj)
      simpa using this
    have hst2 := hstep i o a W d vs hi hgo hdi hJ hfr' (fun k hk => by
      obtain ⟨u, hu, hbu⟩ := Array.any_eq_true.1 hk
      simp only [Bool.and_eq_true, beq_iff_eq] at hbu
      obtain ⟨hb, rfl⟩ := hbu
      exact hready _ (Array.getElem_mem hu) hb) hFd hfz
    have hval : ∀ j, j < n → (ops[ys j]?).bind (·.dst) = some (D j) ∧ a.tmps[D j]? = some (a.tmps.getD (D j) undef) := by
      intro j hj
      have hlt : ys j < ops.size := by rw [hsz]; exact hyl' j hj
      have h3 : ops[ys j]? = some ops[ys j] := by simp [hlt]
      refine ⟨by rw [h3]; exact hD' j _ hj h3, ?_⟩
      have h5 : D j < a.tmps.size := by rw [hasz]; exact hDs' j hj
      simp [Array.getD, h5]
    have yld : ∀ j, j < n → ∀ v, F j v → ∀ W', J (updC d i) (updW vs j v) W' → ys j = i → ((a.put (some (D j)) v).tmps.size = a0.tmps.size ∧ (a.put (some (D j)) v).defers = a0.defers ∧
        (∀ s, (∀ k, k < n → D k ≠ s) → (a.put (some (D j)) v).tmps.getD s undef = a0.tmps.getD s undef) ∧ (∀ k, k < n → d' (ys k) = false → (a.put (some (D j)) v).tmps.getD (D k) undef = a0.tmps.getD (D k) undef) ∧ ∃ vs, (∀ k, k < n → d' (ys k) = true → F k (vs k) ∧ (a.put (some (D j)) v).tmps.getD (D k) undef = vs k) ∧ J d' vs W') := by
      intro j hjn v hv W' hJ' hyj
      subst hyj
      refine ⟨by rw [size_puts]; exact hasz, hdf, fun s hs => by rw [getD_puts (Ne.symm (hs j hjn))]; exact hfr s hs, fun k hk hdk => (by
        have hki : k ≠ j := by rintro rfl; rw [hd'i] at hdk; cases hdk
        rw [getD_puts (fun e => hki (hDi' _ _ hk hjn e))]
        exact hfz k hk (by rw [← hdne (ys k) (fun e => hki (hyi' _ _ hk hjn e))]; exact hdk)), updW vs j v, fun k hk hdk => ?_, by rw [hdd]; exact hJ'⟩
      by_cases hki : k = j
      · subst hki
        unfold updW
        rw [if_pos rfl]
        exact ⟨hv, getD_puts_same (by rw [hasz]; exact hDs' k hk)⟩
      · unfold updW
        rw [if_neg hki, getD_puts (fun e => hki (hDi' _ _ hk hjn e))]
        exact hFd k hk (by rw [← hdne (ys k) (fun e => hki (hyi' _ _ hk hjn e))]; exact hdk)
    have skp : o.dst = none → ∀ W', J (updC d i) vs W' → (a.tmps.size = a0.tmps.size ∧ a.defers = a0.defers ∧
        (∀ s, (∀ k, k < n → D k ≠ s) → a.tmps.getD s undef = a0.tmps.getD s undef) ∧ (∀ k, k < n → d' (ys k) = false → a.tmps.getD (D k) undef = a0.tmps.getD (D k) undef) ∧ ∃ vs, (∀ k, k < n → d' (ys k) = true → F k (vs k) ∧ a.tmps.getD (D k) undef = vs k) ∧ J d' vs W') := by
      intro hdst W' hJ'
      have hno : ∀ k, k < n → ys k ≠ i := by
        intro k hk e
        subst e
        have := hD' k o hk ho
        rw [hdst] at this
        cases this
      exact ⟨hasz, hdf, hfr, fun k hk hdk => hfz k hk (by rw [← hdne (ys k) (hno k hk)]; exact hdk), vs, fun k hk hdk => hFd k hk (by rw [← hdne (ys k) (hno k hk)]; exact hdk), by rw [hdd]; exact hJ'⟩
    unfold wpOpIn
    rw [ho]
    simp only
    rcases hst2 with ⟨hgw, hst2⟩ | ⟨k, b, j, hgg, hjn, hjk, hne, hst2⟩
    · have hw : Region.wanted o (yielded ops a.tmps) = true := by
        unfold Region.wanted
        cases hgg : o.guard with
        | none => rfl
        | some p =>
          obtain ⟨k, b⟩ := p
          obtain ⟨j, hjn, rfl, hjb⟩ := hgw k b hgg
          obtain ⟨h1, h2⟩ := hval j hjn
          rw [hjb] at h2
          simp [yielded, h1, h2]
      rw [if_pos hw]
      refine ⟨fun f _ => hfn f, ?_⟩
      rw [Oper.semAt_eq _ _ _ hndf]
      rcases hst2 with ⟨j, hjn, hyj, v, W', hrun, hv, hJ'⟩ | ⟨hdst, W', hrun, hJ'⟩ | ⟨j, hjn, hyj, f, args, W1, hrun, hcall⟩
      · rw [hrun]
        show _ ∧ _
        rw [hD' j o hjn (by rw [hyj]; exact ho)]
        exact yld j hjn v hv W' hJ' hyj
      · rw [hrun]
        show _ ∧ _
        rw [hdst]
        exact skp hdst W' hJ'
      · rw [hrun]
        refine ⟨hdep0, hcall.mono ?_⟩
        rintro e W' ⟨v, rfl, hv, hJ'⟩
        show _ ∧ _
        rw [hD' j o hjn (by rw [hyj]; exact ho)]
        exact yld j hjn v hv W' hJ' hyj
    · have hw : ¬ Region.wanted o (yielded ops a.tmps) = true := by
        unfold Region.wanted
        subst hjk
        obtain ⟨h1, h2⟩ := hval j hjn
        rw [hgg]
        simp only [yielded, h1, Option.bind_some, h2]
        intro hc
        apply hne
        revert hc
        generalize a.tmps.getD (D j) undef = u
        cases u <;> simp
      rw [if_neg hw]
      refine ⟨fun f _ => hfn f, ?_⟩
      rcases hst2 with ⟨j, hjn, hyj, hv, hJ'⟩ | ⟨hdst, hJ'⟩
      · rw [hD' j o hjn (by rw [hyj]; exact ho)]
        exact yld j hjn undef hv W hJ' hyj
      · rw [hdst]
        exact skp hdst W hJ'
  · rintro d a W ⟨hasz, hdf, hfr, -, vs, hFd, hJ⟩ hall
    rw [hsz] at hall
    have he : a = puts D vs n a0 := by
      refine act_ext (by rw [puts_size]; exact hasz) (fun s => ?_) (by rw [puts_defers]; exact hdf)
      by_cases hs : ∃ j, j < n ∧ D j = s
      · obtain ⟨j, hj, rfl⟩ := hs
        rw [puts_at D _ n a0 hDs' hDi' j hj]
        exact (hFd j hj (hall _ (hyl' j hj))).2
      · rw [puts_other _ _ _ _ _ (fun i hi h => hs ⟨i, hi, h⟩)]
        exact hfr s fun j hj h => hs ⟨j, hj, h⟩
    rw [he]
    exact hend d vs W hall hJ fun j hj => (hFd j hj (hall _ (hyl' j hj))).1

end Go.Proofs.YtaeoghagpeihkaaDoor

namespace Go.Proofs.YtaeoghagpeihkaaDoor

/-- a digit -/
def dig (c : UInt8) : Prop := 48 ≤ c.toNat ∧ c.toNat ≤ 57
instance (c : UInt8) : Decidable (dig c) := inferInstanceAs (Decidable (_ ∧ _))
theorem digit_nat (i : Nat) (h : i < 10) : (UInt8.ofNat (48 + i)).toNat = 48 + i := by
  rw [UInt8.toNat_ofNat']; omega
theorem dec_small {u : Nat} (h : u < 10) : Lib.decDigits u = [UInt8.ofNat (48 + u)] := by rw [Lib.decDigits, dif_pos h]
theorem dec_big {u : Nat} (h : ¬ u < 10) : Lib.decDigits u = Lib.decDigits (u / 10) ++ [UInt8.ofNat (48 + u % 10)] := by rw [Lib.decDigits, dif_neg h]
theorem dec_dig (u : Nat) : ∀ c ∈ Lib.decDigits u, dig c := by
  induction u using Nat.strongRecOn with
  | _ u ih =>
    intro c hc
    by_cases h : u < 10
    · rw [dec_small h] at hc
      simp only [List.mem_singleton] at hc
      subst hc
      have := digit_nat u h
      unfold dig; omega
    · rw [dec_big h] at hc
      rcases List.mem_append.1 hc with hc | hc
      · exact ih (u / 10) (by omega) c hc
      · simp only [List.mem_singleton] at hc
        subst hc
        have := digit_nat (u % 10) (by omega)
        unfold dig; omega
theorem dec_ne (u : Nat) : Lib.decDigits u ≠ [] := by
  by_cases h : u < 10
  · rw [dec_small h]; simp
  · rw [dec_big h]; simp
/-- what digits say -/
def valD (l : List UInt8) : Nat := l.foldl (fun n c => 10 * n + (c.toNat - 48)) 0
theorem valD_snoc (l : List UInt8) (c : UInt8) : valD (l ++ [c]) = 10 * valD l + (c.toNat - 48) := by simp [valD]
theorem valD_dec (u : Nat) : valD (Lib.decDigits u) = u := by
  induction u using Nat.strongRecOn with
  | _ u ih =>
    by_cases h : u < 10
    · rw [dec_small h]
      have := digit_nat u h
      simp only [valD, List.foldl_cons, List.foldl_nil]
      omega
    · rw [dec_big h, valD_snoc, ih (u / 10) (by omega)]
      have := digit_nat (u % 10) (by omega)
      omega
theorem parseM_app (M : Nat) (l r : List UInt8) (acc a : Nat) (h : Lib.parseUintM M acc l = .ok a) : Lib.parseUintM M acc (l ++ r) = Lib.parseUintM M a r := by
  induction l generalizing acc with
  | nil => simp only [Lib.parseUintM] at h; cases h; rfl
  | cons c l ih =>
    simp only [List.cons_append, Lib.parseUintM] at h ⊢
    by_cases h1 : 48 ≤ c.toNat ∧ c.toNat ≤ 57
    · rw [if_pos h1] at h ⊢
      by_cases h2 : 1844674407370955162 ≤ acc
      · rw [if_pos h2] at h; cases h
      · rw [if_neg h2] at h ⊢
        by_cases h3 : M < acc * 10 + (c.toNat - 48)
        · rw [if_pos h3] at h; cases h
        · rw [if_neg h3] at h ⊢; exact ih _ h
    · rw [if_neg h1] at h; cases h
theorem parseM_dec (M u : Nat) (h : u < 18446744073709551610) (hM : u ≤ M) : Lib.parseUintM M 0 (Lib.decDigits u) = .ok u := by
  induction u using Nat.strongRecOn with
  | _ u ih =>
    by_cases h1 : u < 10
    · rw [dec_small h1]
      have := digit_nat u h1
      simp only [Lib.parseUintM]
      rw [if_pos (by omega), if_neg (by omega), if_neg (by omega)]
      congr 1; omega
    · rw [dec_big h1, parseM_app _ _ _ _ _ (ih (u / 10) (by omega) (by omega) (by omega))]
      have := digit_nat (u % 10) (by omega)
      simp only [Lib.parseUintM]
      rw [if_pos (by omega), if_neg (by omega), if_neg (by omega)]
      congr 1; omega
theorem itoa_neg' {a : Int} (h : a < 0) : Lib.itoa a = 45 :: Lib.decDigits a.natAbs := by unfold Lib.itoa; rw [if_pos h]
theorem itoa_pos' {a : Int} (h : ¬ a < 0) : Lib.itoa a = Lib.decDigits a.natAbs := by
  unfold Lib.itoa; rw [if_neg h]; congr 1; omega
theorem parse_itoa (a : Int) (h0 : -9223372036854775808 ≤ a) (h1 : a ≤ 9223372036854775807) : Lib.parseIntB 64 (Lib.itoa a) = .ok a := by
  have hp := parseM_dec (2 ^ 64 - 1) a.natAbs (by omega) (by omega)
  have hB : Lib.parseUintB 64 (Lib.decDigits a.natAbs) = .ok a.natAbs := by
    unfold Lib.parseUintB; rw [if_neg (dec_ne _)]; exact hp
  by_cases h : a < 0
  · rw [itoa_neg' h]
    have e : (45 : UInt8).toNat = 45 := rfl
    simp only [Lib.parseIntB, e]
    rw [if_pos (Or.inr trivial), hB]
    simp only [not_true_eq_false, false_and, if_false, true_and, if_true]
    rw [if_neg (by omega)]
    congr 1; omega
  · rw [itoa_pos' h]
    obtain ⟨c, r, hc⟩ : ∃ c r, Lib.decDigits a.natAbs = c :: r := by
      cases hl : Lib.decDigits a.natAbs with
      | nil => exact absurd hl (dec_ne _)
      | cons c r => exact ⟨c, r, rfl⟩
    have hd := dec_dig a.natAbs c (by rw [hc]; simp)
    have n1 : c.toNat ≠ 43 := by unfold dig at hd; omega
    have n2 : c.toNat ≠ 45 := by unfold dig at hd; omega
    rw [hc] at hB ⊢
    simp only [Lib.parseIntB]
    rw [if_neg (by omega), hB]
    simp only [n2, not_false_eq_true, true_and, false_and, if_false]
    rw [if_neg (by omega)]
    congr 1; omega
/-- what ParseInt reads lies in 64 bits -/
theorem parse_64 {l : List UInt8} {v : Int} (h : Lib.parseIntB 64 l = .ok v) : -9223372036854775808 ≤ v ∧ v ≤ 9223372036854775807 := by
  unfold Lib.parseIntB at h
  split at h
  · cases h
  · dsimp only at h
    split at h
    · cases h
    · cases h
    · split at h
      · cases h
      · split at h
        · cases h
        · rename_i u _ h1 h2
          injection h with h
          split at h <;> omega
/-- a number in its one form -/
def numF (t : List UInt8) : Option Int := match Lib.parseIntB 64 t with
  | .ok v => if Lib.itoa v = t then some v else none
  | _ => none
theorem numF_iff {t : List UInt8} {n : Int} : numF t = some n ↔ (-9223372036854775808 ≤ n ∧ n ≤ 9223372036854775807) ∧ t = Lib.itoa n := by
  constructor
  · intro h
    unfold numF at h
    split at h
    · rename_i v hv
      split at h
      · rename_i he
        injection h with h
        subst h
        exact ⟨parse_64 hv, he.symm⟩
      · cases h
    · cases h
  · rintro ⟨⟨h0, h1⟩, rfl⟩
    unfold numF
    rw [parse_itoa n h0 h1]
    simp
/-- digits without zeros ahead are what is written of their number -/
theorem dec_of_digits (l : List UInt8) (h : ∀ c ∈ l, dig c) (hne : l ≠ []) (h0 : l.length = 1 ∨ l.head? ≠ some 48) : Lib.decDigits (valD l) = l := by
  obtain ⟨k, hk⟩ : ∃ k, k = l.length := ⟨_, rfl⟩
  induction k generalizing l with
  | zero => exact absurd (List.eq_nil_of_length_eq_zero hk.symm) hne
  | succ k ih =>
    obtain ⟨a, c, rfl⟩ : ∃ a c, l = a ++ [c] := ⟨l.dropLast, l.getLast hne, (List.dropLast_concat_getLast hne).symm⟩
    have hd := h c (by simp)
    have hlt : c.toNat - 48 < 10 := by unfold dig at hd; omega
    have hc : UInt8.ofNat (48 + (c.toNat - 48)) = c := by
      apply UInt8.toNat_inj.1
      rw [digit_nat _ hlt]
      unfold dig at hd; omega
    by_cases ha : a = []
    · subst ha
      rw [List.nil_append, show valD [c] = c.toNat - 48 by simp [valD], dec_small hlt, hc]
    · have hb : a.length = 1 ∨ a.head? ≠ some 48 := by
        right
        cases a with
        | nil => exact absurd rfl ha
        | cons x r =>
          rcases h0 with h0 | h0
          · simp at h0
          · simpa using h0
      have hi := ih a (fun x hx => h x (by simp [hx])) ha hb (by simpa using hk)
      have hpos : 0 < valD a := by
        rcases Nat.eq_zero_or_pos (valD a) with h1 | h1
        · rw [h1, dec_small (by omega)] at hi
          subst hi
          exfalso
          rcases h0 with h0 | h0 <;> simp at h0
        · exact h1
      rw [valD_snoc, dec_big (by omega), show (10 * valD a + (c.toNat - 48)) / 10 = valD a by omega, show (10 * valD a + (c.toNat - 48)) % 10 = c.toNat - 48 by omega, hi, hc]

end Go.Proofs.YtaeoghagpeihkaaDoor

namespace Go.Proofs.YtaeoghagpeihkaaDoor

structure Stp where
  kind : Int
  a : Int
  b : Int
  name : List UInt8
  k : Int
  n : Int
/-- the first word of a kind -/
def wordF (k : Int) : List UInt8 :=
  if k = 1 then [108, 105, 110, 107]
  else if k = 2 then [117, 110, 108, 105, 110, 107]
  else if k = 3 then [99, 114, 101, 97, 116, 101]
  else if k = 4 then [100, 101, 108, 101, 116, 101]
  else if k = 5 then [115, 101, 116]
  else if k = 6 then [116, 105, 99, 107]
  else if k = 7 then [100, 101, 108, 105, 118, 101, 114]
  else if k = 8 then [100, 114, 111, 112]
  else if k = 9 then [100, 111, 117, 98, 108, 101]
  else if k = 10 then [99, 114, 97, 115, 104]
  else if k = 11 then [114, 101, 115, 116, 97, 114, 116]
  else if k = 12 then [102, 108, 117, 115, 104]
  else if k = 13 then [114, 111, 117, 110, 100]
  else if k = 14 then [115, 101, 118, 101, 114]
  else if k = 15 then [109, 101, 110, 100]
  else []
/-- the fields of a kind, in order -/
def shapeF (k : Int) : List UInt8 :=
  if k = 1 then [97, 98]
  else if k = 2 then [97, 98]
  else if k = 3 then [97, 115, 107, 110]
  else if k = 4 then [97, 115]
  else if k = 5 then [97, 115, 110]
  else if k = 6 then [97]
  else if k = 7 then [109]
  else if k = 8 then [109]
  else if k = 9 then [109]
  else if k = 10 then [97]
  else if k = 11 then [97, 110]
  else if k = 12 then []
  else if k = 13 then []
  else if k = 14 then [97, 98]
  else if k = 15 then [97, 98]
  else []
def hexd (x : Nat) : UInt8 := UInt8.ofNat (if x < 10 then 48 + x else 87 + x)
def hexF (c : UInt8) : Int := if 48 ≤ c.toNat ∧ c.toNat ≤ 57 then (c.toNat : Int) - 48 else if 97 ≤ c.toNat ∧ c.toNat ≤ 102 then (c.toNat : Int) - 87 else -1
def qcF (c : UInt8) : List UInt8 := if c = 34 ∨ c = 92 then [92, c] else if c.toNat < 32 ∨ 126 < c.toNat then [92, 120, hexd (c.toNat / 16), hexd (c.toNat % 16)] else [c]
/-- a name, quoted -/
def quoteF (s : List UInt8) : List UInt8 := 34 :: (s.flatMap qcF ++ [34])
def fieldV (s : Stp) (c : UInt8) : List UInt8 := if c = 97 then Lib.itoa s.a else if c = 98 then Lib.itoa s.b else if c = 115 then quoteF s.name else if c = 107 then Lib.itoa s.k else Lib.itoa s.n
/-- a step as its kind's fields have it -/
def wantF (s : Stp) : Stp := ⟨s.kind, if (97 : UInt8) ∈ shapeF s.kind then s.a else 0, if (98 : UInt8) ∈ shapeF s.kind then s.b else 0, if (115 : UInt8) ∈ shapeF s.kind then s.name else [], if (107 : UInt8) ∈ shapeF s.kind then s.k else 0, if (110 : UInt8) ∈ shapeF s.kind ∨ (109 : UInt8) ∈ shapeF s.kind then s.n else 0⟩
/-- is it a step? -/
def okS (s : Stp) : Prop := wordF s.kind ≠ [] ∧ wantF s = s ∧ ((109 : UInt8) ∈ shapeF s.kind → 0 ≤ s.n)
def fitS (s : Stp) : Bool := decide (wordF s.kind ≠ []) && decide (s.a = (wantF s).a) && decide (s.b = (wantF s).b) && decide (s.name = (wantF s).name) && decide (s.k = (wantF s).k) && decide (s.n = (wantF s).n) && decide ((109 : UInt8) ∈ shapeF s.kind → 0 ≤ s.n)
theorem fitS_iff (s : Stp) : fitS s = true ↔ okS s := by
  obtain ⟨kind, a, b, name, k, n⟩ := s
  unfold fitS okS
  simp only [Bool.and_eq_true, decide_eq_true_eq]
  constructor
  · rintro ⟨⟨⟨⟨⟨⟨h1, h2⟩, h3⟩, h4⟩, h5⟩, h6⟩, h7⟩
    refine ⟨h1, ?_, h7⟩
    unfold wantF at h2 h3 h4 h5 h6 ⊢
    simp only at h2 h3 h4 h5 h6 ⊢
    rw [← h2, ← h3, ← h4, ← h5, ← h6]
  · rintro ⟨h1, h2, h7⟩
    rw [h2]
    exact ⟨⟨⟨⟨⟨⟨h1, rfl⟩, rfl⟩, rfl⟩, rfl⟩, rfl⟩, h7⟩
/-- a step's line -/
def lineF (s : Stp) : List UInt8 := if fitS s then wordF s.kind ++ (shapeF s.kind).flatMap (fun c => 32 :: fieldV s c) else []
/-- the lines of steps -/
def printF (l : List Stp) : List UInt8 := if l.all fitS then l.flatMap (fun s => lineF s ++ [10]) else []

structure Tok where
  q : Bool
  t : List UInt8
def blankB (c : UInt8) : Bool := c == 32 || c == 9 || c == 13
def stopB (c : UInt8) : Bool := blankB c || c == 35
/-- behind a name's first byte: what it says, and how many bytes -/
def qF : List UInt8 → Option (List UInt8 × Nat)
  | [] => none
  | c :: r =>
    if c = 34 then some ([], 1)
    else if c.toNat < 32 ∨ 126 < c.toNat then none
    else if c ≠ 92 then (qF r).map fun p => (c :: p.1, p.2 + 1)
    else match r with
      | [] => none
      | d :: r1 =>
        if d = 34 ∨ d = 92 then (qF r1).map fun p => (d :: p.1, p.2 + 2)
        else match r1 with
          | h1 :: h2 :: r3 => if d = 120 ∧ 0 ≤ hexF h1 ∧ 0 ≤ hexF h2 then (qF r3).map fun p => (UInt8.ofNat (16 * (hexF h1).toNat + (hexF h2).toNat) :: p.1, p.2 + 4) else none
          | _ => none
/-- the words of a line; none: a quoted name is none -/
def cutF : Nat → List UInt8 → Option (List Tok)
  | 0, _ => some []
  | _ + 1, [] => some []
  | f + 1, c :: r =>
    if c = 35 then some []
    else if blankB c then cutF f r
    else if c = 34 then match qF r with
      | none => none
      | some (t, n) => if (r.drop n).head?.all stopB then (cutF f (r.drop n)).map (⟨true, t⟩ :: ·) else none
    else (cutF f ((c :: r).dropWhile fun x => !stopB x)).map (⟨false, (c :: r).takeWhile fun x => !stopB x⟩ :: ·)
def cutL (l : List UInt8) : Option (List Tok) := cutF (l.length + 1) l
/-- the kind of a word; 0: none -/
def kindF (t : List UInt8) : Int :=
  if t = [108, 105, 110, 107] then 1
  else if t = [117, 110, 108, 105, 110, 107] then 2
  else if t = [99, 114, 101, 97, 116, 101] then 3
  else if t = [100, 101, 108, 101, 116, 101] then 4
  else if t = [115, 101, 116] then 5
  else if t = [116, 105, 99, 107] then 6
  else if t = [100, 101, 108, 105, 118, 101, 114] then 7
  else if t = [100, 114, 111, 112] then 8
  else if t = [100, 111, 117, 98, 108, 101] then 9
  else if t = [99, 114, 97, 115, 104] then 10
  else if t = [114, 101, 115, 116, 97, 114, 116] then 11
  else if t = [102, 108, 117, 115, 104] then 12
  else if t = [114, 111, 117, 110, 100] then 13
  else if t = [115, 101, 118, 101, 114] then 14
  else if t = [109, 101, 110, 100] then 15
  else 0
def zeroS : Stp := ⟨0, 0, 0, [], 0, 0⟩
def putF (c : UInt8) (t : Tok) (s : Stp) : Option Stp :=
  if c = 115 then (if t.q then some { s with name := t.t } else none)
  else if t.q then none
  else match numF t.t with
    | none => none
    | some n =>
      if c = 109 ∧ n < 0 then none
      else if c = 97 then some { s with a := n }
      else if c = 98 then some { s with b := n }
      else if c = 107 then some { s with k := n }
      else some { s with n := n }
def argsF : List UInt8 → List Tok → Stp → Option Stp
  | c :: cs, t :: ts, s => match putF c t s with
    | none => none
    | some s' => argsF cs ts s'
  | _, _, s => some s
/-- a line's words as a step, and the error -/
def stepF : List Tok → Stp × Nat
  | [] => (zeroS, 61)
  | w :: args =>
    if w.q = true ∨ kindF w.t = 0 then (zeroS, 61)
    else if (shapeF (kindF w.t)).length ≠ args.length then (zeroS, 31)
    else match argsF (shapeF (kindF w.t)) args ⟨kindF w.t, 0, 0, [], 0, 0⟩ with
      | none => (zeroS, 31)
      | some s => (s, 0)
/-- what a text says from a line on -/
def parseA : Nat → List UInt8 → Nat → List Stp → List Stp × Nat × Nat
  | 0, _, _, out => (out, 0, 0)
  | _ + 1, [], _, out => (out, 0, 0)
  | f + 1, c :: r, line, out =>
    match cutL ((c :: r).takeWhile fun x => x != 10) with
    | none => ([], line, 20)
    | some [] => parseA f (((c :: r).dropWhile fun x => x != 10).drop 1) (line + 1) out
    | some (w :: ts) =>
      if (stepF (w :: ts)).2 ≠ 0 then ([], line, (stepF (w :: ts)).2)
      else if 65536 ≤ out.length then ([], line, 30)
      else parseA f (((c :: r).dropWhile fun x => x != 10).drop 1) (line + 1) (out ++ [(stepF (w :: ts)).1])
def parseF (text : List UInt8) : List Stp × Nat × Nat := if 1048576 < text.length then ([], 0, 60) else parseA (text.length + 1) text 1 []

end Go.Proofs.YtaeoghagpeihkaaDoor

namespace Go.Proofs.YtaeoghagpeihkaaDoor

def I64s (x : Int) : Prop := -9223372036854775808 ≤ x ∧ x ≤ 9223372036854775807
structure Stp64 (s : Stp) : Prop where
  a : I64s s.a
  b : I64s s.b
  k : I64s s.k
  n : I64s s.n
theorem hexd_hex : ∀ x : Fin 16, hexF (hexd x.1) = (x.1 : Int) := by decide
theorem hexd_back (x : Nat) (h : x < 16) : hexF (hexd x) = (x : Int) := hexd_hex ⟨x, h⟩
theorem byte_back (c : UInt8) : UInt8.ofNat (16 * (c.toNat / 16) + c.toNat % 16) = c := by
  rw [show 16 * (c.toNat / 16) + c.toNat % 16 = c.toNat by omega]
  simp
theorem qF_34 (r : List UInt8) : qF (34 :: r) = some ([], 1) := by rw [qF.eq_def]; rfl
theorem qF_plain {c : UInt8} (r : List UInt8) (h1 : c ≠ 34) (h2 : ¬ (c.toNat < 32 ∨ 126 < c.toNat)) (h3 : c ≠ 92) : qF (c :: r) = (qF r).map fun p => (c :: p.1, p.2 + 1) := by
  rw [qF.eq_def]; dsimp only; rw [if_neg h1, if_neg h2, if_pos h3]
theorem qF_esc {d : UInt8} (r : List UInt8) (h : d = 34 ∨ d = 92) : qF (92 :: d :: r) = (qF r).map fun p => (d :: p.1, p.2 + 2) := by
  rw [qF.eq_def]; dsimp only; rw [if_neg (by decide), if_neg (by decide), if_neg (by decide), if_pos h]
theorem qF_hex {h1 h2 : UInt8} (r : List UInt8) (e1 : 0 ≤ hexF h1) (e2 : 0 ≤ hexF h2) : qF (92 :: 120 :: h1 :: h2 :: r) = (qF r).map fun p => (UInt8.ofNat (16 * (hexF h1).toNat + (hexF h2).toNat) :: p.1, p.2 + 4) := by
  rw [qF.eq_def]; dsimp only; rw [if_neg (by decide), if_neg (by decide), if_neg (by decide), if_neg (by decide), if_pos ⟨rfl, e1, e2⟩]
theorem qF_back (s rest : List UInt8) : qF (s.flatMap qcF ++ 34 :: rest) = some (s, (s.flatMap qcF).length + 1) := by
  induction s with
  | nil => exact qF_34 rest
  | cons c r ih =>
    rw [List.flatMap_cons]
    by_cases h1 : c = 34 ∨ c = 92
    · have e : qcF c = [92, c] := by unfold qcF; rw [if_pos h1]
      rw [e]
      show qF (92 :: c :: (r.flatMap qcF ++ 34 :: rest)) = _
      rw [qF_esc _ h1, ih]
      simp
    · by_cases h2 : c.toNat < 32 ∨ 126 < c.toNat
      · have e : qcF c = [92, 120, hexd (c.toNat / 16), hexd (c.toNat % 16)] := by unfold qcF; rw [if_neg h1, if_pos h2]
        have hc := c.toNat_lt
        have x1 := hexd_back (c.toNat / 16) (by omega)
        have x2 := hexd_back (c.toNat % 16) (by omega)
        rw [e]
        show qF (92 :: 120 :: hexd (c.toNat / 16) :: hexd (c.toNat % 16) :: (r.flatMap qcF ++ 34 :: rest)) = _
        rw [qF_hex _ (by omega) (by omega), x1, x2, ih]
        simp only [Option.map_some, Int.toNat_natCast, byte_back]
        simp
      · have e : qcF c = [c] := by unfold qcF; rw [if_neg h1, if_neg h2]
        rw [e]
        show qF (c :: (r.flatMap qcF ++ 34 :: rest)) = _
        rw [qF_plain _ (fun h => h1 (.inl h)) h2 (fun h => h1 (.inr h)), ih]
        simp
theorem drop_while_len {p : UInt8 → Bool} (l : List UInt8) : (l.dropWhile p).length ≤ l.length := by
  induction l with
  | nil => simp
  | cons c r ih => rw [List.dropWhile_cons]; split <;> simp <;> omega
theorem cutF_fuel : ∀ f g l, l.length < f → l.length < g → cutF f l = cutF g l := by
  intro f
  induction f with
  | zero => intro g l h; omega
  | succ f ih =>
    intro g l h1 h2
    obtain ⟨g, rfl⟩ : ∃ g', g = g' + 1 := ⟨g - 1, by omega⟩
    cases l with
    | nil => rfl
    | cons c r =>
      simp only [List.length_cons] at h1 h2
      unfold cutF
      split
      · rfl
      · split
        · exact ih g r (by omega) (by omega)
        · split
          · split
            · rfl
            · rename_i t n _
              split
              · rw [ih g (r.drop n) (by rw [List.length_drop]; omega) (by rw [List.length_drop]; omega)]
              · rfl
          · rename_i h35 hb _
            have hc : (!stopB c) = true := by
              unfold stopB
              simp only [Bool.not_or, Bool.and_eq_true, Bool.not_eq_true']
              exact ⟨by simpa using hb, by simpa using h35⟩
            have hl := drop_while_len (p := fun x => !stopB x) r
            rw [List.dropWhile_cons, if_pos hc, ih g _ (by omega) (by omega)]
theorem cutF_L {f : Nat} {l : List UInt8} (h : l.length < f) : cutF f l = cutL l := cutF_fuel f _ l h (Nat.lt_succ_self _)
theorem cutL_blank (c : UInt8) (r : List UInt8) (h : blankB c = true) : cutL (c :: r) = cutL r := by
  have h35 : c ≠ 35 := by rintro rfl; exact absurd h (by decide)
  show cutF (r.length + 1 + 1) (c :: r) = _
  rw [cutF, if_neg h35, if_pos h]
  rfl
theorem cutL_hash (r : List UInt8) : cutL (35 :: r) = some [] := by
  show cutF (r.length + 1 + 1) (35 :: r) = _
  rw [cutF, if_pos rfl]
theorem cutL_nil : cutL [] = some [] := rfl
def endB (rest : List UInt8) : Prop := ∀ c r, rest = c :: r → stopB c = true
theorem take_stop (w rest : List UInt8) (hw : ∀ c ∈ w, stopB c = false) (hr : endB rest) : (w ++ rest).takeWhile (fun x => !stopB x) = w ∧ (w ++ rest).dropWhile (fun x => !stopB x) = rest := by
  induction w with
  | nil =>
    cases rest with
    | nil => simp
    | cons c r => have := hr c r rfl; simp [List.takeWhile_cons, List.dropWhile_cons, this]
  | cons c w ih =>
    have h1 := hw c List.mem_cons_self
    have h2 := ih fun x hx => hw x (List.mem_cons_of_mem _ hx)
    simp [List.takeWhile_cons, List.dropWhile_cons, h1, h2.1, h2.2]
theorem cutL_word (w rest : List UInt8) (hne : w ≠ []) (hw : ∀ c ∈ w, stopB c = false) (hq : w.head? ≠ some 34) (hr : endB rest) : cutL (w ++ rest) = (cutL rest).map (⟨false, w⟩ :: ·) := by
  obtain ⟨h1, h2⟩ := take_stop w rest hw hr
  cases w with
  | nil => exact absurd rfl hne
  | cons c w =>
    have hc := hw c List.mem_cons_self
    have h35 : c ≠ 35 := by rintro rfl; exact absurd hc (by decide)
    have hb : ¬ blankB c = true := by intro hb; unfold stopB at hc; rw [hb] at hc; simp at hc
    have h34 : c ≠ 34 := by simpa using hq
    show cutF ((w ++ rest).length + 1 + 1) (c :: (w ++ rest)) = _
    rw [cutF, if_neg h35, if_neg hb, if_neg h34]
    have h1' : (c :: (w ++ rest)).takeWhile (fun x => !stopB x) = c :: w := h1
    have h2' : (c :: (w ++ rest)).dropWhile (fun x => !stopB x) = rest := h2
    rw [h1', h2', cutF_L (by simp; omega)]
theorem cutL_quote (s rest : List UInt8) (hr : endB rest) : cutL (quoteF s ++ rest) = (cutL rest).map (⟨true, s⟩ :: ·) := by
  have e : quoteF s ++ rest = 34 :: (s.flatMap qcF ++ 34 :: rest) := by simp [quoteF]
  rw [e]
  show cutF ((s.flatMap qcF ++ 34 :: rest).length + 1 + 1) (34 :: (s.flatMap qcF ++ 34 :: rest)) = _
  rw [cutF, if_neg (by decide), if_neg (by decide), if_pos rfl, qF_back]
  have hd : (s.flatMap qcF ++ 34 :: rest).drop ((s.flatMap qcF).length + 1) = rest := by
    rw [show s.flatMap qcF ++ 34 :: rest = (s.flatMap qcF ++ [34]) ++ rest by simp, List.drop_left' (by simp)]
  dsimp only
  rw [hd]
  have hall : rest.head?.all stopB = true := by
    cases rest with
    | nil => rfl
    | cons c r => exact hr c r rfl
  rw [if_pos hall, cutF_L (by simp; omega)]
/-- bytes of which no word's end is -/
def plainC (c : UInt8) : Prop := 97 ≤ c.toNat ∧ c.toNat ≤ 122 ∨ 48 ≤ c.toNat ∧ c.toNat ≤ 57 ∨ c.toNat = 45
theorem plain_stop {c : UInt8} (h : plainC c) : stopB c = false ∧ c ≠ 34 ∧ c ≠ 10 := by
  have h1 : c ≠ 32 ∧ c ≠ 9 ∧ c ≠ 13 ∧ c ≠ 35 ∧ c ≠ 34 ∧ c ≠ 10 := by
    refine ⟨?_, ?_, ?_, ?_, ?_, ?_⟩ <;> (rintro rfl; revert h; unfold plainC; decide)
  unfold stopB blankB
  simp [h1]
theorem itoa_plain (x : Int) : ∀ c ∈ Lib.itoa x, plainC c := by
  intro c hc
  have key : ∀ u, ∀ c ∈ Lib.decDigits u, plainC c := fun u c hc => .inr (.inl (dec_dig u c hc))
  by_cases h : x < 0
  · rw [itoa_neg' h] at hc
    rcases List.mem_cons.1 hc with rfl | hc
    · exact .inr (.inr rfl)
    · exact key _ c hc
  · rw [itoa_pos' h] at hc
    exact key _ c hc
theorem itoa_ne (x : Int) : Lib.itoa x ≠ [] := by
  by_cases h : x < 0
  · rw [itoa_neg' h]; simp
  · rw [itoa_pos' h]; exact dec_ne _
theorem wordF_kind {k : Int} (h : wordF k ≠ []) : k = 1 ∨ k = 2 ∨ k = 3 ∨ k = 4 ∨ k = 5 ∨ k = 6 ∨ k = 7 ∨ k = 8 ∨ k = 9 ∨ k = 10 ∨ k = 11 ∨ k = 12 ∨ k = 13 ∨ k = 14 ∨ k = 15 := by
  refine Decidable.byContradiction fun hc => h ?_
  simp only [not_or] at hc
  unfold wordF
  simp [hc]
theorem wordF_plain (k : Int) : ∀ c ∈ wordF k, plainC c := by
  by_cases h : wordF k = []
  · rw [h]; intro c hc; cases hc
  · rcases wordF_kind h with rfl | rfl | rfl | rfl | rfl | rfl | rfl | rfl | rfl | rfl | rfl | rfl | rfl | rfl | rfl <;>
    (intro c hc; unfold plainC; left; revert c hc; decide)
theorem kindF_word {k : Int} (h : wordF k ≠ []) : kindF (wordF k) = k := by
  rcases wordF_kind h with rfl | rfl | rfl | rfl | rfl | rfl | rfl | rfl | rfl | rfl | rfl | rfl | rfl | rfl | rfl <;> decide
theorem word_head {w : List UInt8} (h : ∀ c ∈ w, plainC c) : w.head? ≠ some 34 := by
  cases w with
  | nil => simp
  | cons c r => have := (plain_stop (h c List.mem_cons_self)).2.1; simpa using this
/-- a field's word -/
def tokV (s : Stp) (c : UInt8) : Tok := if c = 97 then ⟨false, Lib.itoa s.a⟩ else if c = 98 then ⟨false, Lib.itoa s.b⟩ else if c = 115 then ⟨true, s.name⟩ else if c = 107 then ⟨false, Lib.itoa s.k⟩ else ⟨false, Lib.itoa s.n⟩
theorem cutL_field (s : Stp) (c : UInt8) (rest : List UInt8) (hr : endB rest) : cutL (32 :: (fieldV s c ++ rest)) = (cutL rest).map (tokV s c :: ·) := by
  rw [cutL_blank _ _ (by decide)]
  have num : ∀ x, cutL (Lib.itoa x ++ rest) = (cutL rest).map (⟨false, Lib.itoa x⟩ :: ·) := fun x => cutL_word _ _ (itoa_ne x) (fun c hc => (plain_stop (itoa_plain x c hc)).1) (word_head (itoa_plain x)) hr
  unfold fieldV tokV
  split
  · exact num _
  · split
    · exact num _
    · split
      · exact cutL_quote _ _ hr
      · split
        · exact num _
        · exact num _
theorem cutL_fields (s : Stp) (cs rest : List UInt8) (hr : endB rest) : cutL (cs.flatMap (fun c => 32 :: fieldV s c) ++ rest) = (cutL rest).map (cs.map (tokV s) ++ ·) := by
  induction cs with
  | nil => simp
  | cons c cs ih =>
    rw [List.flatMap_cons, List.append_assoc]
    show cutL (32 :: (fieldV s c ++ (cs.flatMap (fun c => 32 :: fieldV s c) ++ rest))) = _
    rw [cutL_field s c _ ?_, ih, Option.map_map]
    · rfl
    · intro d r h
      cases cs with
      | nil => exact hr d r h
      | cons e es => rw [List.flatMap_cons] at h; cases h; decide
/-- a line's words, with or without a comment behind -/
theorem cutL_line {s : Stp} (h : okS s) (rest : List UInt8) (hr : rest = [] ∨ ∃ r, rest = 35 :: r) : cutL (lineF s ++ rest) = some (⟨false, wordF s.kind⟩ :: (shapeF s.kind).map (tokV s)) := by
  have hend : endB rest := by
    intro c r e
    rcases hr with rfl | ⟨r', rfl⟩
    · cases e
    · cases e; decide
  have hc : cutL rest = some [] := by
    rcases hr with rfl | ⟨r', rfl⟩
    · rfl
    · exact cutL_hash r'
  unfold lineF
  rw [if_pos ((fitS_iff s).2 h), List.append_assoc, cutL_word _ _ h.1 (fun c hc => (plain_stop (wordF_plain _ c hc)).1) (word_head (wordF_plain _)) ?_, cutL_fields s _ rest hend, hc]
  · simp
  · intro d r e
    cases hs : shapeF s.kind with
    | nil => rw [hs] at e; exact hend d r e
    | cons c cs => rw [hs, List.flatMap_cons] at e; cases e; decide

end Go.Proofs.YtaeoghagpeihkaaDoor

namespace Go.Proofs.YtaeoghagpeihkaaDoor

theorem valD_app (a b : List UInt8) : valD a ≤ valD (a ++ b) := by
  obtain ⟨k, hk⟩ : ∃ k, k = b.length := ⟨_, rfl⟩
  induction k generalizing b with
  | zero => obtain rfl := List.eq_nil_of_length_eq_zero hk.symm; simp
  | succ k ih =>
    have hne : b ≠ [] := by intro h; subst h; simp at hk
    obtain ⟨d, c, rfl⟩ : ∃ d c, b = d ++ [c] := ⟨b.dropLast, b.getLast hne, (List.dropLast_concat_getLast hne).symm⟩
    have := ih d (by simpa using hk)
    rw [← List.append_assoc, valD_snoc]
    omega
theorem dec_head (u : Nat) (h : 0 < u) : (Lib.decDigits u).head? ≠ some 48 := by
  induction u using Nat.strongRecOn with
  | _ u ih =>
    by_cases h1 : u < 10
    · rw [dec_small h1]
      intro e
      have e2 : UInt8.ofNat (48 + u) = 48 := by simpa using e
      have := digit_nat u h1
      rw [e2] at this
      have h3 : (48 : UInt8).toNat = 48 := rfl
      omega
    · rw [dec_big h1]
      have := ih (u / 10) (by omega) (by omega)
      cases hd : Lib.decDigits (u / 10) with
      | nil => exact absurd hd (dec_ne _)
      | cons c r => rw [hd] at this; simpa using this
theorem num_neg {ds : List UInt8} (hd : ∀ c ∈ ds, dig c) (hne : ds ≠ []) (h0 : ds.head? ≠ some 48) (hv : valD ds ≤ 9223372036854775808) : numF (45 :: ds) = some (-(valD ds : Int)) := by
  have hb := dec_of_digits ds hd hne (.inr h0)
  have hpos : 0 < valD ds := by
    rcases Nat.eq_zero_or_pos (valD ds) with h1 | h1
    · rw [h1, dec_small (by omega)] at hb
      subst hb
      exact absurd rfl h0
    · exact h1
  refine numF_iff.2 ⟨⟨by omega, by omega⟩, ?_⟩
  rw [itoa_neg' (by omega), show (-(valD ds : Int)).natAbs = valD ds by omega, hb]
theorem num_pos {ds : List UInt8} (hd : ∀ c ∈ ds, dig c) (hne : ds ≠ []) (h0 : ds.length = 1 ∨ ds.head? ≠ some 48) (hv : valD ds ≤ 9223372036854775807) : numF ds = some (valD ds : Int) := by
  have hb := dec_of_digits ds hd hne h0
  refine numF_iff.2 ⟨⟨by omega, by omega⟩, ?_⟩
  rw [itoa_pos' (by omega), Int.natAbs_natCast, hb]
/-- what a number looks like -/
theorem numF_shape {s : List UInt8} {n : Int} (h : numF s = some n) : ∃ ds, (∀ c ∈ ds, dig c) ∧ ds ≠ [] ∧ ((s = 45 :: ds ∧ ds.head? ≠ some 48 ∧ valD ds ≤ 9223372036854775808) ∨ (s = ds ∧ (ds.length = 1 ∨ ds.head? ≠ some 48) ∧ valD ds ≤ 9223372036854775807)) := by
  obtain ⟨⟨h1, h2⟩, rfl⟩ := numF_iff.1 h
  refine ⟨Lib.decDigits n.natAbs, dec_dig _, dec_ne _, ?_⟩
  by_cases hn : n < 0
  · exact .inl ⟨itoa_neg' hn, dec_head _ (by omega), by rw [valD_dec]; omega⟩
  · refine .inr ⟨itoa_pos' hn, ?_, by rw [valD_dec]; omega⟩
    by_cases h0 : n = 0
    · left; subst h0; rw [show (0 : Int).natAbs = 0 from rfl, dec_small (by omega)]; rfl
    · right; exact dec_head _ (by omega)
theorem num_nil : numF [] = none := by
  cases h : numF [] with
  | none => rfl
  | some n =>
    obtain ⟨ds, -, hne, ⟨e, -⟩ | ⟨e, -⟩⟩ := numF_shape h
    · cases e
    · exact absurd e.symm hne
theorem not_dig_minus : ¬ dig 45 := by unfold dig; decide
/-- no number: the digits' part is empty, begins with a zero of several, has what is no digit, or is too great -/
theorem num_none {s ds : List UInt8} {neg : Bool} (hs : s = if neg then 45 :: ds else ds) (hm : neg = false → ds.head? ≠ some 45)
    (h : ds = [] ∨ (ds.head? = some 48 ∧ 1 < s.length) ∨ (∃ c ∈ ds, ¬ dig c) ∨ (∃ a b, ds = a ++ b ∧ 9223372036854775808 < valD a) ∨ (neg = false ∧ 9223372036854775807 < valD ds)) : numF s = none := by
  cases hn : numF s with
  | none => rfl
  | some n =>
    exfalso
    obtain ⟨es, hd, hne, hcase⟩ := numF_shape hn
    have key : es = ds ∧ (neg = true → es.head? ≠ some 48 ∧ valD es ≤ 9223372036854775808) ∧ (neg = false → (es.length = 1 ∨ es.head? ≠ some 48) ∧ valD es ≤ 9223372036854775807) := by
      cases neg with
      | true =>
        simp only [if_true] at hs
        rcases hcase with ⟨e, h1, h2⟩ | ⟨e, h1, h2⟩
        · rw [hs] at e
          injection e with _ e
          exact ⟨e.symm, fun _ => ⟨h1, h2⟩, (fun h => by cases h)⟩
        · rw [hs] at e
          exact absurd (hd 45 (by rw [← e]; exact List.mem_cons_self)) not_dig_minus
      | false =>
        simp only [Bool.false_eq_true, if_false] at hs
        rcases hcase with ⟨e, h1, h2⟩ | ⟨e, h1, h2⟩
        · exact absurd (by rw [← hs, e]; rfl) (hm rfl)
        · exact ⟨by rw [← e, hs], (fun h => by cases h), fun _ => ⟨h1, h2⟩⟩
    obtain ⟨rfl, k1, k2⟩ := key
    have hv : valD es ≤ 9223372036854775808 := by
      cases neg with
      | true => exact (k1 rfl).2
      | false => have := (k2 rfl).2; omega
    rcases h with h | ⟨h, hl⟩ | ⟨c, hc, hcd⟩ | ⟨a, b, hab, hav⟩ | ⟨h1, h2⟩
    · exact hne h
    · cases neg with
      | true => exact (k1 rfl).1 h
      | false =>
        rcases (k2 rfl).1 with h3 | h3
        · rw [hs] at hl; simp at hl; omega
        · exact h3 h
    · exact hcd (hd c hc)
    · have := valD_app a b
      rw [← hab] at this
      omega
    · have := (k2 h1).2; omega

end Go.Proofs.YtaeoghagpeihkaaDoor

namespace Go.Proofs.YtaeoghagpeihkaaDoor

theorem numF_itoa {x : Int} (h : I64s x) : numF (Lib.itoa x) = some x := numF_iff.2 ⟨h, rfl⟩
/-- a step's words are that step -/
theorem stepF_toks {s : Stp} (h : okS s) (h64 : Stp64 s) : stepF (⟨false, wordF s.kind⟩ :: (shapeF s.kind).map (tokV s)) = (s, 0) := by
  obtain ⟨kind, a, b, name, k, n⟩ := s
  obtain ⟨hw, hwant, hm⟩ := h
  have ia : numF (Lib.itoa a) = some a := numF_itoa h64.a
  have ib : numF (Lib.itoa b) = some b := numF_itoa h64.b
  have ik : numF (Lib.itoa k) = some k := numF_itoa h64.k
  have i_n : numF (Lib.itoa n) = some n := numF_itoa h64.n
  have hk := kindF_word hw
  dsimp only at hk hw hm hwant ⊢
  unfold stepF
  dsimp only
  rw [hk]
  have hk0 : kind ≠ 0 := by rcases wordF_kind hw with h | h | h | h | h | h | h | h | h | h | h | h | h | h | h <;> omega
  rw [if_neg (by simp [hk0]), if_neg (by simp)]
  rcases wordF_kind hw with rfl | rfl | rfl | rfl | rfl | rfl | rfl | rfl | rfl | rfl | rfl | rfl | rfl | rfl | rfl
  all_goals
    simp only [wantF, shapeF, Stp.mk.injEq] at hwant hm
    simp [eq_comm (a := (0 : Int)), eq_comm (a := ([] : List UInt8))] at hwant hm
  all_goals first
    | (simp [shapeF, argsF, putF, tokV, ia, ib, ik, i_n, *]; done)
    | (have hm2 : ¬ n < 0 := by omega
       simp [shapeF, argsF, putF, tokV, ia, ib, ik, i_n, hm2, *])

end Go.Proofs.YtaeoghagpeihkaaDoor

namespace Go.Proofs.YtaeoghagpeihkaaDoor

theorem hexd_no10 : ∀ x : Fin 16, hexd x.1 ≠ 10 := by decide
theorem qcF_no10 (c : UInt8) : ∀ d ∈ qcF c, d ≠ 10 := by
  intro d hd
  have hc := c.toNat_lt
  unfold qcF at hd
  split at hd
  · rename_i h
    simp only [List.mem_cons, List.not_mem_nil, or_false] at hd
    rcases hd with rfl | rfl
    · decide
    · rcases h with rfl | rfl <;> decide
  · split at hd
    · simp only [List.mem_cons, List.not_mem_nil, or_false] at hd
      rcases hd with rfl | rfl | rfl | rfl
      · decide
      · decide
      · exact hexd_no10 ⟨c.toNat / 16, by omega⟩
      · exact hexd_no10 ⟨c.toNat % 16, by omega⟩
    · rename_i h1 h2
      simp only [List.mem_cons, List.not_mem_nil, or_false] at hd
      subst hd
      rintro rfl
      exact h2 (by decide)
theorem quoteF_no10 (s : List UInt8) : ∀ d ∈ quoteF s, d ≠ 10 := by
  intro d hd
  unfold quoteF at hd
  rcases List.mem_cons.1 hd with rfl | hd
  · decide
  · rcases List.mem_append.1 hd with hd | hd
    · obtain ⟨c, -, hc⟩ := List.mem_flatMap.1 hd
      exact qcF_no10 c d hc
    · rw [List.mem_singleton] at hd
      subst hd
      decide
theorem fieldV_no10 (s : Stp) (c : UInt8) : ∀ d ∈ fieldV s c, d ≠ 10 := by
  have num : ∀ x, ∀ d ∈ Lib.itoa x, d ≠ 10 := fun x d hd => (plain_stop (itoa_plain x d hd)).2.2
  unfold fieldV
  split
  · exact num _
  · split
    · exact num _
    · split
      · exact quoteF_no10 _
      · split
        · exact num _
        · exact num _
theorem lineF_no10 (s : Stp) : ∀ d ∈ lineF s, d ≠ 10 := by
  intro d hd
  unfold lineF at hd
  split at hd
  · rcases List.mem_append.1 hd with hd | hd
    · exact (plain_stop (wordF_plain _ d hd)).2.2
    · obtain ⟨c, -, hc⟩ := List.mem_flatMap.1 hd
      rcases List.mem_cons.1 hc with rfl | hc
      · decide
      · exact fieldV_no10 s c d hc
  · cases hd
/-- a line: of a step, or of none -/
def SegOk (x : List UInt8 × Option Stp) : Prop := (∀ c ∈ x.1, c ≠ 10) ∧ match x.2 with
  | none => cutL x.1 = some []
  | some s => ∃ w ts, cutL x.1 = some (w :: ts) ∧ stepF (w :: ts) = (s, 0)
def segText (l : List (List UInt8 × Option Stp)) : List UInt8 := l.flatMap fun x => x.1 ++ [10]
theorem cut_10 (s rest : List UInt8) (hs : ∀ c ∈ s, c ≠ 10) : (s ++ 10 :: rest).takeWhile (fun x => x != 10) = s ∧ (s ++ 10 :: rest).dropWhile (fun x => x != 10) = 10 :: rest := by
  induction s with
  | nil => simp
  | cons c r ih =>
    have h1 : (c != 10) = true := by simpa using hs c List.mem_cons_self
    have h2 := ih fun x hx => hs x (List.mem_cons_of_mem _ hx)
    rw [List.cons_append, List.takeWhile_cons, List.dropWhile_cons, if_pos h1, if_pos h1, h2.1, h2.2]
    exact ⟨rfl, rfl⟩
theorem parseA_line (f : Nat) (s rest : List UInt8) (line : Nat) (out : List Stp) (hs : ∀ c ∈ s, c ≠ 10) :
    parseA (f + 1) (s ++ 10 :: rest) line out = match cutL s with
      | none => ([], line, 20)
      | some [] => parseA f rest (line + 1) out
      | some (w :: ts) =>
        if (stepF (w :: ts)).2 ≠ 0 then ([], line, (stepF (w :: ts)).2)
        else if 65536 ≤ out.length then ([], line, 30)
        else parseA f rest (line + 1) (out ++ [(stepF (w :: ts)).1]) := by
  obtain ⟨h1, h2⟩ := cut_10 s rest hs
  obtain ⟨c, r, e⟩ : ∃ c r, s ++ 10 :: rest = c :: r := by
    cases s with
    | nil => exact ⟨_, _, rfl⟩
    | cons c r => exact ⟨_, _, rfl⟩
  rw [e] at h1 h2 ⊢
  rw [parseA, h1, h2]
  rfl
theorem parse_segs (l : List (List UInt8 × Option Stp)) : ∀ f line out, (∀ x ∈ l, SegOk x) → (segText l).length < f → out.length + (l.filterMap Prod.snd).length ≤ 65536 → parseA f (segText l) line out = (out ++ l.filterMap Prod.snd, 0, 0) := by
  induction l with
  | nil =>
    intro f line out _ hf _
    obtain ⟨f, rfl⟩ : ∃ g, f = g + 1 := ⟨f - 1, by have : (segText []).length = 0 := rfl; omega⟩
    show parseA (f + 1) [] line out = _
    rw [parseA]
    simp
  | cons x r ih =>
    intro f line out hx hf ho
    obtain ⟨⟨h1, h2⟩, h3⟩ : SegOk x ∧ ∀ y ∈ r, SegOk y := ⟨hx x List.mem_cons_self, fun y hy => hx y (List.mem_cons_of_mem _ hy)⟩
    obtain ⟨s, o⟩ := x
    have e : segText ((s, o) :: r) = s ++ 10 :: segText r := by simp [segText]
    rw [e] at hf ⊢
    obtain ⟨f, rfl⟩ : ∃ g, f = g + 1 := ⟨f - 1, by simp at hf; omega⟩
    simp only [List.length_append, List.length_cons] at hf
    rw [parseA_line f s _ line out h1]
    cases o with
    | none =>
      dsimp only at h2
      rw [h2]
      dsimp only
      have e2 : ((s, none) :: r).filterMap Prod.snd = r.filterMap Prod.snd := rfl
      rw [e2] at ho ⊢
      exact ih f (line + 1) out h3 (by omega) ho
    | some t =>
      obtain ⟨w, ts, h4, h5⟩ := h2
      dsimp only at h4
      rw [h4]
      dsimp only
      have e2 : ((s, some t) :: r).filterMap Prod.snd = t :: r.filterMap Prod.snd := rfl
      rw [e2] at ho ⊢
      simp only [List.length_cons] at ho
      rw [h5, if_neg (by simp), if_neg (by omega), ih f (line + 1) (out ++ [t]) h3 (by omega) (by simp; omega)]
      simp
theorem seg_line {s : Stp} (h : okS s) (h64 : Stp64 s) : SegOk (lineF s, some s) := by
  refine ⟨lineF_no10 s, _, _, ?_, stepF_toks h h64⟩
  have := cutL_line h [] (.inl rfl)
  rwa [List.append_nil] at this
theorem printF_segs {l : List Stp} (h : ∀ s ∈ l, okS s) : printF l = segText (l.map fun s => (lineF s, some s)) := by
  unfold printF segText
  rw [if_pos (List.all_eq_true.2 fun s hs => (fitS_iff s).2 (h s hs)), List.flatMap_map]
theorem filter_some (l : List Stp) : (l.map fun s => (lineF s, some s)).filterMap Prod.snd = l := by
  induction l with
  | nil => rfl
  | cons a r ih =>
    show a :: (r.map fun s => (lineF s, some s)).filterMap Prod.snd = a :: r
    rw [ih]
/-- THERE AND BACK -/
theorem parse_print {l : List Stp} (h : ∀ s ∈ l, okS s ∧ Stp64 s) (h1 : (printF l).length ≤ 1048576) (h2 : l.length ≤ 65536) : parseF (printF l) = (l, 0, 0) := by
  unfold parseF
  rw [if_neg (by omega)]
  have e := printF_segs fun s hs => (h s hs).1
  rw [e, parse_segs _ _ 1 [] (fun x hx => ?_) (Nat.lt_succ_self _) (by rw [filter_some]; simpa using h2), filter_some]
  · simp
  · obtain ⟨s, hs, rfl⟩ := List.mem_map.1 hx
    exact seg_line (h s hs).1 (h s hs).2
def letterC (c : UInt8) : Prop := c = 97 ∨ c = 98 ∨ c = 115 ∨ c = 107 ∨ c = 110 ∨ c = 109
theorem shapeF_mem (k : Int) : shapeF k ∈ ([[97, 98], [97, 115, 107, 110], [97, 115], [97, 115, 110], [97], [109], [97, 110], []] : List (List UInt8)) := by
  by_cases h1 : k = 1
  · subst h1; decide
  by_cases h2 : k = 2
  · subst h2; decide
  by_cases h3 : k = 3
  · subst h3; decide
  by_cases h4 : k = 4
  · subst h4; decide
  by_cases h5 : k = 5
  · subst h5; decide
  by_cases h6 : k = 6
  · subst h6; decide
  by_cases h7 : k = 7
  · subst h7; decide
  by_cases h8 : k = 8
  · subst h8; decide
  by_cases h9 : k = 9
  · subst h9; decide
  by_cases h10 : k = 10
  · subst h10; decide
  by_cases h11 : k = 11
  · subst h11; decide
  by_cases h12 : k = 12
  · subst h12; decide
  by_cases h13 : k = 13
  · subst h13; decide
  by_cases h14 : k = 14
  · subst h14; decide
  by_cases h15 : k = 15
  · subst h15; decide
  unfold shapeF
  rw [if_neg h1, if_neg h2, if_neg h3, if_neg h4, if_neg h5, if_neg h6, if_neg h7, if_neg h8, if_neg h9, if_neg h10, if_neg h11, if_neg h12, if_neg h13, if_neg h14, if_neg h15]
  decide
theorem shapeF_letters (k : Int) : ∀ c ∈ shapeF k, letterC c := by
  have h := shapeF_mem k
  generalize shapeF k = l at h ⊢
  simp only [List.mem_cons, List.not_mem_nil, or_false] at h
  rcases h with rfl | rfl | rfl | rfl | rfl | rfl | rfl | rfl <;> (intro c hc; unfold letterC; revert c hc; decide)
theorem numF_64 {t : List UInt8} {n : Int} (h : numF t = some n) : I64s n := (numF_iff.1 h).1
theorem putF_ok {c : UInt8} {t : Tok} {s s' : Stp} (hc : letterC c) (h : putF c t s = some s') : s'.kind = s.kind ∧ (c ≠ 97 → s'.a = s.a) ∧ (c ≠ 98 → s'.b = s.b) ∧ (c ≠ 115 → s'.name = s.name) ∧ (c ≠ 107 → s'.k = s.k) ∧ (c ≠ 110 → c ≠ 109 → s'.n = s.n) ∧ (Stp64 s → Stp64 s') ∧ (c = 109 → 0 ≤ s'.n) := by
  unfold putF at h
  by_cases h1 : c = 115
  · rw [if_pos h1] at h
    split at h
    · injection h with h
      subst h h1
      exact ⟨rfl, fun _ => rfl, fun _ => rfl, fun e => absurd rfl e, fun _ => rfl, fun _ _ => rfl, fun h => ⟨h.a, h.b, h.k, h.n⟩, fun e => absurd e (by decide)⟩
    · cases h
  · rw [if_neg h1] at h
    split at h
    · cases h
    · split at h
      · cases h
      · rename_i n hn
        have h64 := numF_64 hn
        by_cases h2 : c = 109 ∧ n < 0
        · rw [if_pos h2] at h; cases h
        · rw [if_neg h2] at h
          rcases hc with rfl | rfl | rfl | rfl | rfl | rfl
          · injection h with h; subst h
            exact ⟨rfl, fun e => absurd rfl e, fun _ => rfl, fun _ => rfl, fun _ => rfl, fun _ _ => rfl, fun h => ⟨h64, h.b, h.k, h.n⟩, fun e => absurd e (by decide)⟩
          · injection h with h; subst h
            exact ⟨rfl, fun _ => rfl, fun e => absurd rfl e, fun _ => rfl, fun _ => rfl, fun _ _ => rfl, fun h => ⟨h.a, h64, h.k, h.n⟩, fun e => absurd e (by decide)⟩
          · exact absurd rfl h1
          · injection h with h; subst h
            exact ⟨rfl, fun _ => rfl, fun _ => rfl, fun _ => rfl, fun e => absurd rfl e, fun _ _ => rfl, fun h => ⟨h.a, h.b, h64, h.n⟩, fun e => absurd e (by decide)⟩
          · injection h with h; subst h
            exact ⟨rfl, fun _ => rfl, fun _ => rfl, fun _ => rfl, fun _ => rfl, fun e => absurd rfl e, fun h => ⟨h.a, h.b, h.k, h64⟩, fun e => absurd e (by decide)⟩
          · injection h with h; subst h
            exact ⟨rfl, fun _ => rfl, fun _ => rfl, fun _ => rfl, fun _ => rfl, fun _ e => absurd rfl e, fun h => ⟨h.a, h.b, h.k, h64⟩, fun _ => by
              have : ¬ n < 0 := fun hlt => h2 ⟨rfl, hlt⟩
              show 0 ≤ n
              omega⟩
theorem argsF_ok (cs : List UInt8) : ∀ (ts : List Tok) (s s' : Stp), (∀ c ∈ cs, letterC c) → argsF cs ts s = some s' → s'.kind = s.kind ∧ ((97 : UInt8) ∉ cs → s'.a = s.a) ∧ ((98 : UInt8) ∉ cs → s'.b = s.b) ∧ ((115 : UInt8) ∉ cs → s'.name = s.name) ∧ ((107 : UInt8) ∉ cs → s'.k = s.k) ∧ ((110 : UInt8) ∉ cs → (109 : UInt8) ∉ cs → s'.n = s.n) ∧ (Stp64 s → Stp64 s') := by
  induction cs with
  | nil =>
    intro ts s s' _ h
    unfold argsF at h
    injection h with h
    subst h
    exact ⟨rfl, fun _ => rfl, fun _ => rfl, fun _ => rfl, fun _ => rfl, fun _ _ => rfl, id⟩
  | cons c cs ih =>
    intro ts s s' hl h
    cases ts with
    | nil =>
      unfold argsF at h
      injection h with h
      subst h
      exact ⟨rfl, fun _ => rfl, fun _ => rfl, fun _ => rfl, fun _ => rfl, fun _ _ => rfl, id⟩
    | cons t ts =>
      unfold argsF at h
      split at h
      · cases h
      · rename_i s1 hp
        obtain ⟨p0, p1, p2, p3, p4, p5, p6, -⟩ := putF_ok (hl c List.mem_cons_self) hp
        obtain ⟨i0, i1, i2, i3, i4, i5, i6⟩ := ih ts s1 s' (fun x hx => hl x (List.mem_cons_of_mem _ hx)) h
        simp only [List.mem_cons, not_or]
        exact ⟨i0.trans p0, fun e => (i1 e.2).trans (p1 (Ne.symm e.1)), fun e => (i2 e.2).trans (p2 (Ne.symm e.1)), fun e => (i3 e.2).trans (p3 (Ne.symm e.1)), fun e => (i4 e.2).trans (p4 (Ne.symm e.1)), fun e1 e2 => (i5 e1.2 e2.2).trans (p5 (Ne.symm e1.1) (Ne.symm e2.1)), fun h => i6 (p6 h)⟩
theorem shapeF_m (k : Int) (h : (109 : UInt8) ∈ shapeF k) : shapeF k = [109] := by
  have h2 := shapeF_mem k
  generalize shapeF k = l at h h2 ⊢
  simp only [List.mem_cons, List.not_mem_nil, or_false] at h2
  rcases h2 with rfl | rfl | rfl | rfl | rfl | rfl | rfl | rfl <;> first | rfl | (exfalso; revert h; decide)
theorem kindF_cases (t : List UInt8) : kindF t = 0 ∨ wordF (kindF t) = t ∧ wordF (kindF t) ≠ [] := by
  by_cases h1 : t = [108, 105, 110, 107]
  · right; subst h1; decide
  by_cases h2 : t = [117, 110, 108, 105, 110, 107]
  · right; subst h2; decide
  by_cases h3 : t = [99, 114, 101, 97, 116, 101]
  · right; subst h3; decide
  by_cases h4 : t = [100, 101, 108, 101, 116, 101]
  · right; subst h4; decide
  by_cases h5 : t = [115, 101, 116]
  · right; subst h5; decide
  by_cases h6 : t = [116, 105, 99, 107]
  · right; subst h6; decide
  by_cases h7 : t = [100, 101, 108, 105, 118, 101, 114]
  · right; subst h7; decide
  by_cases h8 : t = [100, 114, 111, 112]
  · right; subst h8; decide
  by_cases h9 : t = [100, 111, 117, 98, 108, 101]
  · right; subst h9; decide
  by_cases h10 : t = [99, 114, 97, 115, 104]
  · right; subst h10; decide
  by_cases h11 : t = [114, 101, 115, 116, 97, 114, 116]
  · right; subst h11; decide
  by_cases h12 : t = [102, 108, 117, 115, 104]
  · right; subst h12; decide
  by_cases h13 : t = [114, 111, 117, 110, 100]
  · right; subst h13; decide
  by_cases h14 : t = [115, 101, 118, 101, 114]
  · right; subst h14; decide
  by_cases h15 : t = [109, 101, 110, 100]
  · right; subst h15; decide
  left
  unfold kindF
  rw [if_neg h1, if_neg h2, if_neg h3, if_neg h4, if_neg h5, if_neg h6, if_neg h7, if_neg h8, if_neg h9, if_neg h10, if_neg h11, if_neg h12, if_neg h13, if_neg h14, if_neg h15]
/-- what words say is a step -/
theorem stepF_ok {l : List Tok} (h : (stepF l).2 = 0) : okS (stepF l).1 ∧ Stp64 (stepF l).1 := by
  unfold stepF at h ⊢
  split at h
  · cases h
  · rename_i w args
    try dsimp only at h ⊢
    split at h
    · cases h
    · rename_i h1
      rw [if_neg h1]
      split at h
      · cases h
      · rename_i h2
        rw [if_neg h2]
        split at h
        · cases h
        · rename_i s hs
          try rw [hs]
          dsimp only
          obtain ⟨i0, i1, i2, i3, i4, i5, i6⟩ := argsF_ok _ _ _ _ (shapeF_letters _) hs
          have hk : wordF (kindF w.t) ≠ [] := by
            rcases kindF_cases w.t with h0 | ⟨-, h0⟩
            · exact absurd (.inr h0) h1
            · exact h0
          have z : I64s 0 := by unfold I64s; omega
          have h64 := i6 ⟨z, z, z, z⟩
          obtain ⟨kind, a, b, name, k, n⟩ := s
          dsimp only at i0 i1 i2 i3 i4 i5
          subst i0
          refine ⟨⟨hk, ?_, fun hm => ?_⟩, h64⟩
          · unfold wantF
            dsimp only
            congr 1
            · split
              · rfl
              · rename_i e; exact (i1 e).symm
            · split
              · rfl
              · rename_i e; exact (i2 e).symm
            · split
              · rfl
              · rename_i e; exact (i3 e).symm
            · split
              · rfl
              · rename_i e; exact (i4 e).symm
            · split
              · rfl
              · rename_i e; exact (i5 (fun h => e (.inl h)) (fun h => e (.inr h))).symm
          · dsimp only at hm ⊢
            have e := shapeF_m _ hm
            rw [e] at h2 hs
            have hl : args.length = 1 := by simpa using (Decidable.not_not.1 h2).symm
            match args, hl with
            | [t], _ =>
              unfold argsF at hs
              split at hs
              · cases hs
              · rename_i s1 hp
                unfold argsF at hs
                injection hs with hs
                subst hs
                exact (putF_ok (.inr (.inr (.inr (.inr (.inr rfl))))) hp).2.2.2.2.2.2.2 rfl
theorem parseA_ok : ∀ f text line out, (∀ s ∈ out, okS s ∧ Stp64 s) → out.length ≤ 65536 → ((parseA f text line out).2.2 = 0 → (∀ s ∈ (parseA f text line out).1, okS s ∧ Stp64 s) ∧ (parseA f text line out).1.length ≤ 65536) ∧ ((parseA f text line out).2.2 ≠ 0 → (parseA f text line out).1 = []) := by
  intro f
  induction f with
  | zero => intro text line out h1 h2; exact ⟨fun _ => ⟨h1, h2⟩, fun h => absurd rfl h⟩
  | succ f ih =>
    intro text line out h1 h2
    cases text with
    | nil => exact ⟨fun _ => ⟨h1, h2⟩, fun h => absurd rfl h⟩
    | cons c r =>
      unfold parseA
      split
      · exact ⟨(fun h => by cases h), fun _ => rfl⟩
      · exact ih _ _ _ h1 h2
      · rename_i w ts _
        split
        · rename_i h3
          exact ⟨fun h => absurd h h3, fun _ => rfl⟩
        · rename_i h3
          split
          · exact ⟨(fun h => by cases h), fun _ => rfl⟩
          · rename_i h4
            refine ih _ _ _ (fun s hs => ?_) (by rw [List.length_append, List.length_singleton]; omega)
            rcases List.mem_append.1 hs with hs | hs
            · exact h1 s hs
            · rw [List.mem_singleton] at hs
              subst hs
              exact stepF_ok (Decidable.not_not.1 h3)
theorem parseF_ok (text : List UInt8) : ((parseF text).2.2 = 0 → (∀ s ∈ (parseF text).1, okS s ∧ Stp64 s) ∧ (parseF text).1.length ≤ 65536) ∧ ((parseF text).2.2 ≠ 0 → (parseF text).1 = []) := by
  unfold parseF
  split
  · exact ⟨(fun h => by cases h), fun _ => rfl⟩
  · exact parseA_ok _ _ _ _ (fun s h => by cases h) (by simp)
theorem lineF_ne {s : Stp} (h : okS s) : lineF s ≠ [] := by
  unfold lineF
  rw [if_pos ((fitS_iff s).2 h)]
  intro e
  exact h.1 (List.append_eq_nil_iff.1 e).1
theorem lineF_no {s : Stp} (h : ¬ okS s) : lineF s = [] := by
  unfold lineF
  rw [if_neg (fun e => h ((fitS_iff s).1 e))]
theorem printF_ne {l : List Stp} (h : ∀ s ∈ l, okS s) (hne : l ≠ []) : printF l ≠ [] := by
  rw [printF_segs h]
  cases l with
  | nil => exact absurd rfl hne
  | cons a r => simp [segText]
/-- ONE FORM -/
theorem parse_oneform {text : List UInt8} (h : (parseF text).2.2 = 0) (h2 : (printF (parseF text).1).length ≤ 1048576) : parseF (printF (parseF text).1) = ((parseF text).1, 0, 0) :=
  parse_print ((parseF_ok text).1 h).1 h2 ((parseF_ok text).1 h).2

end Go.Proofs.YtaeoghagpeihkaaDoor

namespace Go.Proofs.YtaeoghagpeihkaaDoor

/-- the first bytes of a comment, without a line's end -/
def plainF (s : List UInt8) : List UInt8 := (s.take 40).filter fun c => c != 10
/-- a step's line among blanks and comments -/
def gapText (g : Nat) (cm : List UInt8) (s : Stp) : List UInt8 :=
  (if g = 1 then [9, 32] else if g = 2 then [32, 13, 10, 35] ++ cm ++ [10] else []) ++ lineF s ++ (if g = 3 then 35 :: cm else []) ++ [10]
def gapSegs (g : Nat) (cm : List UInt8) (s : Stp) : List (List UInt8 × Option Stp) :=
  if g = 1 then [(9 :: 32 :: lineF s, some s)]
  else if g = 2 then [([32, 13], none), (35 :: cm, none), (lineF s, some s)]
  else if g = 3 then [(lineF s ++ 35 :: cm, some s)]
  else [(lineF s, some s)]
theorem gap_text (g : Nat) (cm : List UInt8) (s : Stp) : segText (gapSegs g cm s) = gapText g cm s := by
  unfold gapSegs gapText segText
  by_cases h1 : g = 1
  · subst h1; simp
  · by_cases h2 : g = 2
    · subst h2; simp
    · by_cases h3 : g = 3
      · subst h3; simp
      · simp [h1, h2, h3]
theorem plainF_no10 (s : List UInt8) : ∀ c ∈ plainF s, c ≠ 10 := by
  intro c hc
  have := (List.mem_filter.1 hc).2
  simpa using this
theorem gap_ok (g : Nat) (cm : List UInt8) (hcm : ∀ c ∈ cm, c ≠ 10) {s : Stp} (h : okS s) (h64 : Stp64 s) : ∀ x ∈ gapSegs g cm s, SegOk x := by
  have hl := seg_line h h64
  obtain ⟨w, ts, e1, e2⟩ := hl.2
  unfold gapSegs
  split
  · intro x hx
    rw [List.mem_singleton] at hx
    subst hx
    refine ⟨fun c hc => ?_, w, ts, ?_, e2⟩
    · rcases List.mem_cons.1 hc with rfl | hc
      · decide
      · rcases List.mem_cons.1 hc with rfl | hc
        · decide
        · exact lineF_no10 s c hc
    · show cutL (9 :: 32 :: lineF s) = _
      rw [cutL_blank _ _ (by decide), cutL_blank _ _ (by decide)]
      exact e1
  · split
    · intro x hx
      simp only [List.mem_cons, List.not_mem_nil, or_false] at hx
      rcases hx with rfl | rfl | rfl
      · exact ⟨by simp, by rfl⟩
      · refine ⟨fun c hc => ?_, cutL_hash cm⟩
        rcases List.mem_cons.1 hc with rfl | hc
        · decide
        · exact hcm c hc
      · exact hl
    · split
      · intro x hx
        rw [List.mem_singleton] at hx
        subst hx
        refine ⟨fun c hc => ?_, _, _, cutL_line h (35 :: cm) (.inr ⟨cm, rfl⟩), stepF_toks h h64⟩
        rcases List.mem_append.1 hc with hc | hc
        · exact lineF_no10 s c hc
        · rcases List.mem_cons.1 hc with rfl | hc
          · decide
          · exact hcm c hc
      · intro x hx
        rw [List.mem_singleton] at hx
        subst hx
        exact hl
theorem gap_some (g : Nat) (cm : List UInt8) (s : Stp) : (gapSegs g cm s).filterMap Prod.snd = [s] := by
  unfold gapSegs
  split
  · rfl
  · split
    · rfl
    · split
      · rfl
      · rfl
/-- lines with their gaps -/
def gapsText (cm : List UInt8) (l : List (Nat × Stp)) : List UInt8 := l.flatMap fun x => gapText x.1 cm x.2
def gapsSegs (cm : List UInt8) (l : List (Nat × Stp)) : List (List UInt8 × Option Stp) := l.flatMap fun x => gapSegs x.1 cm x.2
theorem gaps_text (cm : List UInt8) (l : List (Nat × Stp)) : segText (gapsSegs cm l) = gapsText cm l := by
  unfold gapsSegs gapsText
  induction l with
  | nil => rfl
  | cons a r ih =>
    rw [List.flatMap_cons, List.flatMap_cons, ← ih, ← gap_text]
    unfold segText
    rw [List.flatMap_append]
theorem gaps_some (cm : List UInt8) (l : List (Nat × Stp)) : (gapsSegs cm l).filterMap Prod.snd = l.map Prod.snd := by
  unfold gapsSegs
  induction l with
  | nil => rfl
  | cons a r ih => rw [List.flatMap_cons, List.filterMap_append, ih, gap_some]; rfl
/-- BLANKS -/
theorem parse_gaps {cm : List UInt8} {l : List (Nat × Stp)} (hcm : ∀ c ∈ cm, c ≠ 10) (h : ∀ x ∈ l, okS x.2 ∧ Stp64 x.2) (h1 : (gapsText cm l).length ≤ 1048576) (h2 : l.length ≤ 65536) : parseF (gapsText cm l) = (l.map Prod.snd, 0, 0) := by
  unfold parseF
  rw [if_neg (by omega), ← gaps_text, parse_segs _ _ 1 [] (fun x hx => ?_) (Nat.lt_succ_self _) (by rw [gaps_some]; simpa using h2), gaps_some]
  · simp
  · obtain ⟨y, hy, hx⟩ := List.mem_flatMap.1 hx
    exact gap_ok y.1 cm hcm (h y hy).1 (h y hy).2 x hx

end Go.Proofs.YtaeoghagpeihkaaDoor

namespace Go.Proofs.YtaeoghagpeihkaaDoor

theorem idx_cases (c : UInt8) : ∀ (l : List UInt8), (Lib.indexByte l c = -1 ∧ l.takeWhile (fun x => x != c) = l ∧ l.dropWhile (fun x => x != c) = []) ∨ ∃ i : Nat, Lib.indexByte l c = i ∧ i < l.length ∧ l.takeWhile (fun x => x != c) = l.take i ∧ l.dropWhile (fun x => x != c) = l.drop i := by
  intro l
  induction l with
  | nil => exact .inl ⟨rfl, rfl, rfl⟩
  | cons b l ih =>
    by_cases hb : b = c
    · subst hb
      exact .inr ⟨0, by simp [Lib.indexByte], by simp, by simp, by simp⟩
    · have h1 : (b == c) = false := by simpa using hb
      have h2 : (b != c) = true := by simpa using hb
      rcases ih with ⟨e1, e2, e3⟩ | ⟨i, e1, e2, e3, e4⟩
      · refine .inl ⟨?_, ?_, ?_⟩
        · simp [Lib.indexByte, h1, e1]
        · rw [List.takeWhile_cons, if_pos h2, e2]
        · rw [List.dropWhile_cons, if_pos h2, e3]
      · refine .inr ⟨i + 1, ?_, by simp; omega, ?_, ?_⟩
        · have : (Lib.indexByte l c == -1) = false := by rw [e1, beq_eq_false_iff_ne]; omega
          simp [Lib.indexByte, h1, this, e1]
        · rw [List.takeWhile_cons, if_pos h2, e3]; rfl
        · rw [List.dropWhile_cons, if_pos h2, e4]; rfl
/-- the first line, and what stands behind it -/
def lineOf (l : List UInt8) : List UInt8 := l.takeWhile (fun x => x != 10)
def restOf (l : List UInt8) : List UInt8 := (l.dropWhile (fun x => x != 10)).drop 1
theorem restOf_len (c : UInt8) (r : List UInt8) : (restOf (c :: r)).length ≤ r.length := by
  unfold restOf
  rcases idx_cases 10 (c :: r) with ⟨-, -, e⟩ | ⟨i, -, h, -, e⟩
  · rw [e]; simp
  · rw [e, List.drop_drop, List.length_drop]; simp
theorem lineOf_len (l : List UInt8) : (lineOf l).length ≤ l.length := (List.takeWhile_sublist (p := fun x => x != 10) (l := l)).length_le
/-- a text's lines, numbered from k on -/
def linesK : Nat → Nat → List UInt8 → List (Nat × List UInt8)
  | 0, _, _ => []
  | _ + 1, _, [] => []
  | f + 1, k, c :: r => (k, lineOf (c :: r)) :: linesK f (k + 1) (restOf (c :: r))
def linesL (k : Nat) (l : List UInt8) : List (Nat × List UInt8) := linesK (l.length + 1) k l
theorem linesK_fuel : ∀ f g k l, l.length < f → l.length < g → linesK f k l = linesK g k l := by
  intro f
  induction f with
  | zero => intro g k l h; omega
  | succ f ih =>
    intro g k l h1 h2
    cases g with
    | zero => omega
    | succ g =>
      cases l with
      | nil => rfl
      | cons c r =>
        have := restOf_len c r
        simp only [List.length_cons] at h1 h2
        rw [linesK, linesK, ih g (k + 1) _ (by omega) (by omega)]
theorem linesL_nil (k : Nat) : linesL k [] = [] := rfl
theorem linesL_cons (k : Nat) (c : UInt8) (r : List UInt8) : linesL k (c :: r) = (k, lineOf (c :: r)) :: linesL (k + 1) (restOf (c :: r)) := by
  unfold linesL
  rw [linesK]
  have := restOf_len c r
  rw [linesK_fuel _ ((restOf (c :: r)).length + 1) (k + 1) _ (by simp only [List.length_cons]; omega) (by omega)]
/-- a script's lines read one behind the other -/
def parseG : List (Nat × List UInt8) → List Stp → List Stp × Nat × Nat
  | [], out => (out, 0, 0)
  | (k, s) :: r, out => match cutL s with
    | none => ([], k, 20)
    | some [] => parseG r out
    | some (w :: ts) =>
      if (stepF (w :: ts)).2 ≠ 0 then ([], k, (stepF (w :: ts)).2)
      else if 65536 ≤ out.length then ([], k, 30)
      else parseG r (out ++ [(stepF (w :: ts)).1])
theorem parse_G : ∀ f l k out, l.length < f → parseA f l k out = parseG (linesL k l) out := by
  intro f
  induction f with
  | zero => intro l k out h; omega
  | succ f ih =>
    intro l k out h
    cases l with
    | nil => rfl
    | cons c r =>
      have hl := restOf_len c r
      simp only [List.length_cons] at h
      rw [parseA, linesL_cons, parseG]
      show (match cutL (lineOf (c :: r)) with | none => _ | some [] => parseA f (restOf (c :: r)) (k + 1) out | some (w :: ts) => if (stepF (w :: ts)).2 ≠ 0 then _ else if 65536 ≤ out.length then _ else parseA f (restOf (c :: r)) (k + 1) (out ++ [(stepF (w :: ts)).1])) = _
      cases cutL (lineOf (c :: r)) with
      | none => rfl
      | some l2 =>
        cases l2 with
        | nil => exact ih _ _ _ (by omega)
        | cons w ts =>
          simp only
          rw [ih _ _ _ (by omega)]
theorem linesL_len : ∀ (n : Nat) (l : List UInt8) (k : Nat), l.length ≤ n → (linesL k l).length ≤ n ∧ ∀ x ∈ linesL k l, x.2.length ≤ n := by
  intro n
  induction n with
  | zero =>
    intro l k h
    obtain rfl : l = [] := List.eq_nil_of_length_eq_zero (by omega)
    exact ⟨Nat.le_refl _, fun x h => by cases h⟩
  | succ n ih =>
    intro l k h
    cases l with
    | nil => exact ⟨Nat.zero_le _, fun x h => by cases h⟩
    | cons c r =>
      have hl := restOf_len c r
      have h2 := lineOf_len (c :: r)
      simp only [List.length_cons] at h h2
      obtain ⟨h3, h4⟩ := ih (restOf (c :: r)) (k + 1) (by omega)
      rw [linesL_cons]
      refine ⟨by simp only [List.length_cons]; omega, fun x hx => ?_⟩
      rcases List.mem_cons.1 hx with rfl | hx
      · show (lineOf (c :: r)).length ≤ _; omega
      · have := h4 x hx; omega

end Go.Proofs.YtaeoghagpeihkaaDoor

