/- From what an argument reads as to what the walks ask of it: a uint32; a slice of slices of bytes, with the bulk that the second form bounds. -/
import Derived.Test.YtmekpmboghmfpaaDoorRows
import Derived.Test.YtmekpmboghmfpaaDoorReads
import Derived.Deep.Matrix
namespace Go.Proofs.YtmekpmboghmfpaaDoor
open Go.ChangeShapes Go.WideShapes Go.ChangeAt Go.RowKit Go.Deep

set_option maxRecDepth 100000 in
theorem read_u32 {W : World} {base : Nat} {n : Int} (h : Value.okWide Tryd.prog W .any base 29 (.int .u32 n)) : ∃ bw : BitVec 32, n = b32 bw := by
  simp only [Value.okWide, Tryd.underlying29, Cell.okWide, Cell.ok, IntKind.has, IntKind.min, IntKind.max, IntKind.signed, IntKind.bits] at h
  refine ⟨BitVec.ofNat 32 n.toNat, ?_⟩
  unfold b32
  rw [BitVec.toNat_ofNat]
  simp at h
  omega

/-- a slice of slices of bytes -/
def BtsL (w : World) (B : Nat) (v : Value) (ls : List (List UInt8)) : Prop :=
  ∃ ao cap, v = .slice ao ls.length cap ∧ ls.length ≤ cap ∧ cap ≤ maxLen ∧
    (ls ≠ [] → ∃ b off, ao = some ⟨b, off, none⟩ ∧ b < B ∧ ∀ i, i < ls.length → ∃ u, w.cell? ⟨b, off + i, none⟩ = some u ∧ Bts w B u (ls.getD i []))

theorem BtsL.below {w w' : World} {B B' : Nat} {v : Value} {ls : List (List UInt8)} (h : BtsL w B v ls) (hb : Below B w w') (hB : B ≤ B') : BtsL w' B' v ls := by
  obtain ⟨ao, cap, h1, h2, h3, h4⟩ := h
  refine ⟨ao, cap, h1, h2, h3, fun hne => ?_⟩
  obtain ⟨b, off, h5, h6, h7⟩ := h4 hne
  refine ⟨b, off, h5, by omega, fun i hi => ?_⟩
  obtain ⟨u, h8, h9⟩ := h7 i hi
  exact ⟨u, (hb.cell (p := ⟨b, off + i, none⟩) h6).trans h8, h9.below hb hB⟩

def rowOf (zs : List Int) (n : Nat) : List UInt8 := (zs.take n).map fun z => UInt8.ofNat z.toNat

theorem bts_row {W : World} {A : Option Addr} {L C : Nat} {zs : List Int} (h1 : L ≤ C) (h2 : C ≤ maxLen) (h3 : zs.length = C) (h4 : ∀ n ∈ zs, (Lit.int .u8 n).wf = true) (h5 : A = none → C = 0)
    (h6 : ∀ a', A = some a' → ∀ c, c < C → W.cell? (a'.add c) = some (.int .u8 (zs.getD c 0))) : Bts W W.heap.size (.slice A L C) (rowOf zs L) := by
  have hlen : (rowOf zs L).length = L := by unfold rowOf; simp; omega
  refine ⟨A, C, by rw [hlen], by omega, by omega, h5, fun hne => ?_⟩
  have hpos : 0 < L := by
    rcases Nat.eq_zero_or_pos L with h0 | h0
    · exact absurd (List.eq_nil_of_length_eq_zero (hlen.trans h0)) hne
    · exact h0
  cases A with
  | none => have := h5 rfl; omega
  | some x =>
    obtain ⟨b, off, spot⟩ := x
    have hc0 := h6 _ rfl 0 (by omega)
    have hspot : spot = none := by simpa [Addr.add] using World.cell?_spot hc0
    subst hspot
    refine ⟨b, off, rfl, ?_, fun i hi => ?_⟩
    · have := World.block_lt_of_cell? W _ hc0
      simpa [Addr.add] using this
    · rw [hlen] at hi
      have hc := h6 _ rfl i (by omega)
      rw [Addr.add_lit] at hc
      rw [hc]
      have hw := h4 (zs.getD i 0) (by simp [List.getD, show i < zs.length by omega])
      have hb := bounds_u8 hw
      have hg : (rowOf zs L).getD i 0 = UInt8.ofNat (zs.getD i 0).toNat := by
        simp [rowOf, List.getD, hi, show i < zs.length by omega]
      rw [hg]
      generalize zs.getD i 0 = z at *
      have : ((UInt8.ofNat z.toNat).toNat : Int) = z := by simp; omega
      rw [this]

theorem bulk_map {H : Type} (f : Nat → DataW H) (g : Nat → Nat) (l : List Nat) (h : ∀ r ∈ l, g r ≤ Rows.uptoBulk (f r)) : (l.map g).sum ≤ Rows.uptoBulkAll (l.map f) := by
  induction l with
  | nil => simp [Rows.uptoBulkAll]
  | cons x r ih =>
    have h1 := ih fun y hy => h y (List.mem_cons_of_mem _ hy)
    have h2 := h x List.mem_cons_self
    simp only [List.map_cons, List.sum_cons, Rows.uptoBulkAll]
    omega
theorem bulk_len {H : Type} (l : List (DataW H)) : l.length ≤ Rows.uptoBulkAll l := by
  induction l with
  | nil => simp [Rows.uptoBulkAll]
  | cons x r ih =>
    have : 1 ≤ Rows.uptoBulk x := by
      cases x with
      | lit l => cases l <;> simp [Rows.uptoBulk]
      | _ => simp [Rows.uptoBulk]
    simp only [Rows.uptoBulkAll, List.length_cons]; omega

theorem bulk_slice {H : Type} (elems spare : List (DataW H)) : elems.length + spare.length + 1 ≤ Rows.uptoBulk (.slice elems spare) := by
  have h1 := bulk_len elems
  have h2 := bulk_len spare
  simp only [Rows.uptoBulk]
  omega

/-- a [][]byte that came in: each row reads as bytes; all its bytes and rows are within its bulk -/
theorem read_rows {H : Type} {enc : TypeId × Value → H} {W : World} {d : DataW H} {p : List MemPlace} {a : Option Addr} {len cap : Nat}
    (h : DataW.Trod enc Tryd.prog W 0 (fun _ => true) true 33 (.slice a len cap) d p) :
    ∃ ls : List (List UInt8), BtsL W W.heap.size (.slice a len cap) ls ∧ (ls.map List.length).sum + ls.length + 1 ≤ Rows.uptoBulk d := by
  obtain ⟨fuel, hf⟩ := h
  rcases open_int_rows Tryd.underlying33 Tryd.underlying22 Tryd.underlying5 (by kernel_rfl) (by kernel_rfl) hf with ⟨hcs, hx⟩ | ⟨x, l, c, A, L, C, Z, hcs, _, hl, hm, hx, hrow⟩
  · simp [Value.cells] at hcs
    obtain ⟨rfl, rfl, rfl⟩ := hcs
    have hd : d = .nil := congrArg Prod.fst hx
    subst hd
    exact ⟨[], ⟨none, 0, rfl, by simp, by simp [maxLen], fun h => absurd rfl h⟩, by simp [Rows.uptoBulk]⟩
  · simp [Value.cells] at hcs
    obtain ⟨rfl, rfl, rfl⟩ := hcs
    have hd : d = _ := congrArg Prod.fst hx
    subst hd
    have hll : ((List.range len).map fun r => rowOf (Z r) (L r)).length = len := by simp
    refine ⟨(List.range len).map fun r => rowOf (Z r) (L r), ⟨some x, cap, by rw [hll], by omega, by omega, fun hne => ?_⟩, ?_⟩
    · have hpos : 0 < len := by
        rcases Nat.eq_zero_or_pos len with h0 | h0
        · rw [h0] at hne; exact absurd rfl hne
        · exact h0
      obtain ⟨b, off, spot⟩ := x
      have hc0 := (hrow 0 (by omega)).1
      have hspot : spot = none := by simpa [Addr.add] using World.cell?_spot hc0
      subst hspot
      refine ⟨b, off, rfl, ?_, fun i hi => ?_⟩
      · have := World.block_lt_of_cell? W _ hc0
        simpa [Addr.add] using this
      · rw [hll] at hi
        obtain ⟨h1, h2, h3, h4, h5, h6, h7⟩ := hrow i (by omega)
        rw [Addr.add_lit] at h1
        refine ⟨_, h1, ?_⟩
        have hg : ((List.range len).map fun r => rowOf (Z r) (L r)).getD i [] = rowOf (Z i) (L i) := by simp [List.getD, hi]
        rw [hg]
        exact bts_row h2 h3 h4 h5 h6 fun a' ha => (h7 a' ha).2
    · have e1 := bulk_map (H := H) (fun r => intRow .u8 (A r) (L r) (Z r)) (fun r => (rowOf (Z r) (L r)).length + 1) (List.range len) (fun r hr => by
        have hr' : r < cap := by have := List.mem_range.1 hr; omega
        obtain ⟨h1, h2, h3, h4, h5, h6, h7⟩ := hrow r hr'
        have hlen : (rowOf (Z r) (L r)).length = L r := by unfold rowOf; simp; omega
        show (rowOf (Z r) (L r)).length + 1 ≤ _
        rw [hlen]
        cases hA : A r with
        | none =>
          have := h6 hA
          simp only [intRow, Rows.uptoBulk]
          omega
        | some a' =>
          have := bulk_slice (H := H) (lits .u8 ((Z r).take (L r))) (lits .u8 ((Z r).drop (L r)))
          simp only [intRow]
          have e2 : (lits (H := H) .u8 ((Z r).take (L r))).length = L r := by simp [lits]; omega
          omega)
      have e3 : ((List.range len).map fun r => (rowOf (Z r) (L r)).length + 1).sum = ((((List.range len).map fun r => rowOf (Z r) (L r))).map List.length).sum + len := by
        rw [List.map_map]
        have : ∀ (f : Nat → Nat) (l : List Nat), (l.map fun r => f r + 1).sum = (l.map f).sum + l.length := fun f l => by
          induction l with
          | nil => rfl
          | cons x r ih => simp only [List.map_cons, List.sum_cons, List.length_cons, ih]; omega
        rw [this (fun r => (rowOf (Z r) (L r)).length)]
        simp [Function.comp_def]
      rw [hll]
      simp only [Rows.uptoBulk]
      omega

theorem bulk_bytes {H : Type} {d : DataW H} {l : List UInt8} (h : (d = .nil ∧ l = []) ∨ ∃ elems spare, d = .slice elems spare ∧ elems.length = l.length ∧ l.length ≤ elems.length + spare.length) : l.length ≤ Rows.uptoBulk d := by
  rcases h with ⟨rfl, rfl⟩ | ⟨elems, spare, rfl, h1, h2⟩
  · simp
  · have := bulk_slice elems spare
    omega

end Go.Proofs.YtmekpmboghmfpaaDoor
