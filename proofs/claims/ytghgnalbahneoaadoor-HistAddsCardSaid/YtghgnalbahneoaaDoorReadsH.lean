/- A histogram and a row of numbers that came in, with the numbers' bounds; the three tables of the library that the row lays. -/
import Derived.Test.YtghgnalbahneoaaDoorReads
import Derived.Test.YtghgnalbahneoaaDoorReadsN
import Derived.Test.YtghgnalbahneoaaDoorHist18
import Derived.Lib.SmallJoins
import Derived.Lib.LaidTab
import Derived.Stop.LaidErr
namespace Go.Proofs.YtghgnalbahneoaaDoor
open Go.ChangeShapes Go.WideShapes Go.ChangeAt Go.RowKit

set_option maxRecDepth 100000 in
theorem lit_bd {num : Int} (h : Lit.wf (.int .i64 num) = true) : -9223372036854775808 ≤ num ∧ num < 9223372036854775808 := by
  simp [Lit.wf, IntKind.min, IntKind.max, IntKind.signed, IntKind.bits] at h
  omega
theorem bytes_i64 : Tryd.prog.bytesOf 2 = 8 := by kernel_rfl

theorem read_i64t {H : Type} {enc : TypeId × Value → H} {W : World} {d : DataW H × List MemPlace} {fuel : Nat} {v : Value}
    (hf : DataW.trod enc Tryd.prog W 0 (fun _ => true) true fuel 22 [v] = some d) :
    ∃ l : List Int, Its W W.heap.size v l ∧ In64 l ∧ ((d.1 = .nil ∧ l = []) ∨ ∃ elems spare, d.1 = .slice elems spare ∧ elems.length = l.length) := by
  rcases open_ints Tryd.underlying22 Tryd.underlying2 (by kernel_rfl) hf with ⟨hcs, hx⟩ | ⟨x, len, cap, zs, hcs, _, hl, hm, hz, hx, hcell, hwz⟩
  · simp at hcs
    subst hcs
    exact ⟨[], Its.nil _ _, fun j => by simp, .inl ⟨congrArg Prod.fst hx, rfl⟩⟩
  · simp at hcs
    subst hcs
    have hz' : zs.length = cap := by simpa using hz
    have hlen : (zs.take len).length = len := by simp; omega
    refine ⟨zs.take len, ⟨some x, cap, by rw [hlen], by rw [hlen]; exact hl, by rw [hlen]; unfold maxLen at hm; omega, (fun e => by cases e), fun hne => ?_⟩, fun j => ?_, .inr ⟨_, _, congrArg Prod.fst hx, by rw [hlen]; simp [lits]; omega⟩⟩
    · have hpos : 0 < len := by
        rcases Nat.eq_zero_or_pos len with h0 | h0
        · subst h0; simp at hne
        · exact h0
      obtain ⟨b, off, spot⟩ := x
      have hc0 := hcell 0 (by omega)
      have hspot : spot = none := by simpa [Addr.add] using World.cell?_spot hc0
      subst hspot
      refine ⟨b, off, rfl, ?_, fun i hi => ?_⟩
      · have := World.block_lt_of_cell? W _ hc0
        simpa [Addr.add] using this
      · rw [hlen] at hi
        have hc := hcell i (by omega)
        rw [Addr.add_lit] at hc
        rw [hc]
        simp [List.getD, hi, show i < zs.length by omega]
    · by_cases hj : j < (zs.take len).length
      · have hmem : (zs.take len).getD j 0 ∈ zs := by
          rw [List.getD_eq_getElem?_getD, List.getElem?_eq_getElem hj]
          exact List.mem_of_mem_take (List.getElem_mem hj)
        have := lit_bd (hwz _ hmem)
        omega
      · rw [List.getD_eq_getElem?_getD, List.getElem?_eq_none (by omega)]
        simp
theorem read_i64s' {H : Type} {enc : TypeId × Value → H} {W : World} {d : DataW H} {p : List MemPlace} {a : Option Addr} {len cap : Nat}
    (h : DataW.Trod enc Tryd.prog W 0 (fun _ => true) true 22 (.slice a len cap) d p) :
    ∃ l : List Int, Its W W.heap.size (.slice a len cap) l ∧ In64 l ∧ ((d = .nil ∧ l = []) ∨ ∃ elems spare, d = .slice elems spare ∧ elems.length = l.length) := by
  obtain ⟨fuel, hf⟩ := h
  exact read_i64t (d := (d, p)) hf
theorem bulk_all {H : Type} (l : List (DataW H)) : l.length ≤ Rows.uptoBulkAll l := by
  induction l with
  | nil => simp [Rows.uptoBulkAll]
  | cons x r ih =>
    have : 1 ≤ Rows.uptoBulk x := by
      cases x with
      | lit l => cases l <;> simp [Rows.uptoBulk]
      | _ => simp [Rows.uptoBulk]
    simp only [Rows.uptoBulkAll, List.length_cons]; omega
theorem bulk_i64 {H : Type} {d : DataW H} {l : List Int} (h : (d = .nil ∧ l = []) ∨ ∃ elems spare, d = .slice elems spare ∧ elems.length = l.length) : l.length ≤ Rows.uptoBulk d := by
  rcases h with ⟨rfl, rfl⟩ | ⟨elems, spare, rfl, h1⟩
  · simp
  · have := bulk_all elems
    simp only [Rows.uptoBulk]
    omega
set_option maxRecDepth 100000 in
theorem hist_struct : ∃ f0 f1 : Field, Tryd.prog.underlying 24 = some (.struct #[f0, f1]) ∧ Go.Deep.oneCellFields Tryd.prog #[f0, f1] = true ∧ f0.type = 22 ∧ f1.type = 22 :=
  ⟨_, _, Tryd.underlying24, by kernel_rfl, rfl, rfl⟩
set_option maxRecDepth 100000 in
theorem read_hist {H : Type} {enc : TypeId × Value → H} {W : World} {base : Nat} {v : Value} {d : DataW H} {p : List MemPlace} (hv : Value.okWide Tryd.prog W .any base 24 v)
    (h : DataW.Trod enc Tryd.prog W 0 (fun _ => true) true 24 v d p) : ∃ (vb vc : Value) (bs cs : List Int), v = hiV vb vc ∧ Its W W.heap.size vb bs ∧ Its W W.heap.size vc cs ∧ In64 bs ∧ In64 cs := by
  obtain ⟨f0, f1, hs, hone, t0, t1⟩ := hist_struct
  obtain ⟨v0, v1, y0, y1, n, rfl, -, -, h0, h1⟩ := Go.Joins.open_agg2 hs hone (by kernel_rfl) hv h
  rw [t0] at h0
  rw [t1] at h1
  obtain ⟨l0, i0, b0, -⟩ := read_i64t h0
  obtain ⟨l1, i1, b1, -⟩ := read_i64t h1
  exact ⟨v0, v1, l0, l1, rfl, i0, i1, b0, b1⟩

set_option maxRecDepth 100000 in
theorem gPowT : (Tryd.prog.globals[0]?).map (·.type) = some 116 := by kernel_rfl
set_option maxRecDepth 100000 in
theorem cellsPow : Tryd.prog.cellsOf 116 = 20 := by kernel_rfl
theorem cellsU64 : Tryd.prog.cellsOf 86 = 1 := by kernel_rfl
set_option maxRecDepth 100000 in
theorem tab_of_laid {x y : String × DataW Unit} {W : World} (h : laidMet Tryd.prog (x :: y :: ("internal/strconv.uint64pow10", Rows.laid_internal_strconv_uint64pow10) :: []) W) : TabT W :=
  Lib.tabIs_of_head (rest := []) gPow gPowT Tryd.underlying116 Tryd.underlying86 cellsU64 cellsPow h.tail.tail

/-- a laid table's cells -/
def laidCells : DataW Unit → Array Value
  | .agg l => (l.filterMap fun | .lit (.int k z) => some (Value.int k z) | _ => none).toArray
  | _ => #[]
def laying (w : World) (g : Nat) (d : DataW Unit) : World := { w with heap := w.heap.modify g fun | .cells _ t frozen => .cells (laidCells d) t frozen | o => o }

end Go.Proofs.YtghgnalbahneoaaDoor
