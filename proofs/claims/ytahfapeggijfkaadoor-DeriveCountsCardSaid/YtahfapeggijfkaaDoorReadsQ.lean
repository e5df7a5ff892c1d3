/- A fraction that came in; the three tables of the library that the row lays. -/
import Derived.Test.YtahfapeggijfkaaDoorReadsN
import Derived.Test.YtahfapeggijfkaaDoorFracT
import Derived.Lib.SmallJoins
import Derived.Lib.LaidTab
import Derived.Stop.LaidErr
namespace Go.Proofs.YtahfapeggijfkaaDoor
open Go.ChangeShapes Go.WideShapes Go.ChangeAt Go.RowKit

theorem frac_struct : ∃ f0 f1 : Field, Tryd.prog.underlying 23 = some (.struct #[f0, f1]) ∧ Go.Deep.oneCellFields Tryd.prog #[f0, f1] = true ∧ f0.type = 2 ∧ f1.type = 2 :=
  ⟨_, _, Tryd.underlying23, by kernel_rfl, rfl, rfl⟩
set_option maxRecDepth 100000 in
theorem lit_bd {num : Int} (h : Lit.wf (.int .i64 num) = true) : -9223372036854775808 ≤ num ∧ num < 9223372036854775808 := by
  simp [Lit.wf, IntKind.min, IntKind.max, IntKind.signed, IntKind.bits] at h
  omega
set_option maxRecDepth 100000 in
theorem read_frac {H : Type} {enc : TypeId × Value → H} {W : World} {base : Nat} {v : Value} {d : DataW H} {p : List MemPlace} (hv : Value.okWide Tryd.prog W .any base 23 v)
    (h : DataW.Trod enc Tryd.prog W 0 (fun _ => true) true 23 v d p) : ∃ n m : Int, v = frV n m ∧ (-9223372036854775808 ≤ n ∧ n < 9223372036854775808) ∧ (-9223372036854775808 ≤ m ∧ m < 9223372036854775808) := by
  obtain ⟨f0, f1, hs, hone, t0, t1⟩ := frac_struct
  obtain ⟨v0, v1, y0, y1, n, rfl, -, -, h0, h1⟩ := Go.Joins.open_agg2 hs hone (by kernel_rfl) hv h
  rw [t0] at h0
  rw [t1] at h1
  obtain ⟨a, e0, -, w0⟩ := DataW.trod_int Tryd.underlying2 h0
  obtain ⟨b, e1, -, w1⟩ := DataW.trod_int Tryd.underlying2 h1
  simp at e0 e1
  subst e0 e1
  exact ⟨a, b, rfl, lit_bd w0, lit_bd w1⟩

theorem gPowT : (Tryd.prog.globals[0]?).map (·.type) = some 74 := by kernel_rfl
theorem cellsPow : Tryd.prog.cellsOf 74 = 20 := by kernel_rfl
theorem cellsU64 : Tryd.prog.cellsOf 41 = 1 := by kernel_rfl
theorem tab_of_laid {x y : String × DataW Unit} {W : World} (h : laidMet Tryd.prog (x :: y :: ("internal/strconv.uint64pow10", Rows.laid_internal_strconv_uint64pow10) :: []) W) : TabT W :=
  Lib.tabIs_of_head (rest := []) gPow gPowT Tryd.underlying74 Tryd.underlying41 cellsU64 cellsPow h.tail.tail

/-- a laid table's cells -/
def laidCells : DataW Unit → Array Value
  | .agg l => (l.filterMap fun | .lit (.int k z) => some (Value.int k z) | _ => none).toArray
  | _ => #[]
def laying (w : World) (g : Nat) (d : DataW Unit) : World := { w with heap := w.heap.modify g fun | .cells _ t frozen => .cells (laidCells d) t frozen | o => o }

end Go.Proofs.YtahfapeggijfkaaDoor
