/- From what an argument reads as to what the walks ask of it: a slice of bytes.
A string that came in.
From what an argument reads as to what the walks ask of it: numbers.
The two sentinels of strconv and the three tables that the rows lay. -/
import Derived.Test.YtaeoghagpeihkaaDoorSA
import Derived.ProofKit
import Derived.OpenShut
import Derived.Deep.DeepHandedRow
import Derived.Lib.LaidTab
import Derived.Test.YtaeoghagpeihkaaDoorSI
import Derived.Lib.SmallJoins
import Derived.Stop.LaidErr
set_option linter.unusedSimpArgs false
set_option linter.unusedVariables false
namespace Go.Proofs.YtaeoghagpeihkaaDoor
open Go.ChangeShapes Go.WideShapes Go.ChangeAt Go.RowKit

theorem own : ownKnob Tryd.prog.godebug = none := by kernel_rfl
theorem laidOut : laidOutB Tryd.prog = true := by kernel_rfl
end Go.Proofs.YtaeoghagpeihkaaDoor

namespace Go.Proofs.YtaeoghagpeihkaaDoor
open Go.ChangeShapes Go.WideShapes Go.ChangeAt Go.RowKit

theorem read_text {H : Type} {enc : TypeId × Value → H} {W : World} {d : DataW H} {p : List MemPlace} {s : ByteArray}
    (h : DataW.Trod enc Tryd.prog W 0 (fun _ => true) true 9 (.string s) d p) :
    ∃ l : List UInt8, s = ⟨l.toArray⟩ ∧ l.length ≤ maxLen ∧ d = .lit (.string l) := by
  obtain ⟨fuel, hf⟩ := h
  obtain ⟨s', h1, h2, h3⟩ := DataW.trod_string Tryd.underlying9 hf
  simp [Value.cells] at h1
  subst h1
  refine ⟨s.data.toList, by simp, h3, congrArg Prod.fst h2⟩

theorem bulk_text {H : Type} (l : List UInt8) : l.length ≤ Rows.uptoBulk (H := H) (.lit (.string l)) := by
  simp [Rows.uptoBulk]

end Go.Proofs.YtaeoghagpeihkaaDoor

namespace Go.Proofs.YtaeoghagpeihkaaDoor
open Go.ChangeShapes Go.WideShapes Go.ChangeAt Go.RowKit

set_option maxRecDepth 100000 in
theorem read_i64 {W : World} {base : Nat} {t : TypeId} {n : Int} (ht : Tryd.prog.underlying t = some (.int .i64)) (h : Value.okWide Tryd.prog W .any base t (.int .i64 n)) : -9223372036854775808 ≤ n ∧ n < 9223372036854775808 := by
  simp only [Value.okWide, ht, Cell.okWide, Cell.ok, IntKind.has, IntKind.min, IntKind.max, IntKind.signed, IntKind.bits] at h
  simp at h
  omega

end Go.Proofs.YtaeoghagpeihkaaDoor

namespace Go.Proofs.YtaeoghagpeihkaaDoor
open Go.ChangeShapes Go.WideShapes Go.ChangeAt Go.RowKit

theorem gPowT : (Tryd.prog.globals[0]?).map (·.type) = some 111 := by kernel_rfl
theorem cellsPow : Tryd.prog.cellsOf 111 = 20 := by kernel_rfl
theorem cellsU64 : Tryd.prog.cellsOf 40 = 1 := by kernel_rfl
/-- a laid table's cells -/
def laidCells : DataW Unit → Array Value
  | .agg l => (l.filterMap fun | .lit (.int k z) => some (Value.int k z) | _ => none).toArray
  | _ => #[]
def laying (w : World) (g : Nat) (d : DataW Unit) : World := { w with heap := w.heap.modify g fun | .cells _ t frozen => .cells (laidCells d) t frozen | o => o }

theorem gRng : Tryd.prog.globalNamed "strconv.ErrRange" = some 3 := by kernel_rfl
theorem gRngT : (Tryd.prog.globals[3]?).map (·.type) = some 71 := by kernel_rfl
theorem gSyn : Tryd.prog.globalNamed "strconv.ErrSyntax" = some 2 := by kernel_rfl
theorem gSynT : (Tryd.prog.globals[2]?).map (·.type) = some 71 := by kernel_rfl
theorem star_es : "*" ++ "errors.errorString" = "*errors.errorString" := by decide
theorem row_es (u : TypeId) (h : Tryd.prog.typeName? 3 u = some "*errors.errorString") : u = 131 :=
  typeName_ptr_named (nm := "errors.errorString") (by rw [star_es]; kernel_rfl) (by kernel_rfl) (by decide) u (by rw [star_es]; exact h)
theorem cellsES : Tryd.prog.cellsOf 133 = 1 := by kernel_rfl
theorem cellsSt : Tryd.prog.cellsOf 9 = 1 := by kernel_rfl
theorem err_of_laid {W : World} (h : laidMet Tryd.prog (("strconv.ErrRange", Rows.laid_strconv_ErrRange) :: ("strconv.ErrSyntax", Rows.laid_strconv_ErrSyntax) :: []) W) : ErrT W := by
  obtain ⟨a0, s0, hv0, _, _, _⟩ := laid_sentinel h gRng gRngT Tryd.underlying71 row_es Tryd.underlying131 Tryd.underlying133 rfl rfl Tryd.underlying9 cellsES cellsSt
  obtain ⟨a1, s1, hv1, _, _, _⟩ := laid_sentinel h.tail gSyn gSynT Tryd.underlying71 row_es Tryd.underlying131 Tryd.underlying133 rfl rfl Tryd.underlying9 cellsES cellsSt
  exact ⟨⟨_, _, by simpa using World.var?_cell gSyn hv1 0⟩, _, _, by simpa using World.var?_cell gRng hv0 0⟩
theorem tab_of_laid5 {x y r1 r2 : String × DataW Unit} {W : World} (h : laidMet Tryd.prog (x :: y :: ("internal/strconv.uint64pow10", Rows.laid_internal_strconv_uint64pow10) :: r1 :: r2 :: []) W) : TabT W :=
  Lib.tabIs_of_head (rest := [r1, r2]) gPow gPowT Tryd.underlying111 Tryd.underlying40 cellsU64 cellsPow h.tail.tail

/-- a world in which a sentinel lies: its block of text at 'k', the variable at 'g' -/
def sentAt (w : World) (g k : Nat) : World := { w with heap := w.heap.modify g fun | .cells _ t frozen => .cells #[.iface 131 (.pointer (some ⟨k, 0, none⟩))] t frozen | o => o }
def sentText (d : DataW Unit) : Obj := .cells #[.string ⟨(match d with | .iface _ (.ptr (.agg [.lit (.string l)])) => l | _ => []).toArray⟩] 133
noncomputable def lowE : Nat := (World.holding Tryd.prog default ⟨#[], #[], []⟩).heap.size
noncomputable def holdE (os : Os) : World := World.holding Tryd.prog os ⟨#[sentText Rows.laid_strconv_ErrRange, sentText Rows.laid_strconv_ErrSyntax], #[], []⟩
noncomputable def worldE (os : Os) : World := sentAt (sentAt (laying (laying (laying (holdE os) 4 Rows.laid_math_bits_deBruijn32tab) 5 Rows.laid_math_bits_deBruijn64tab) 0 Rows.laid_internal_strconv_uint64pow10) 3 lowE) 2 (lowE + 1)

end Go.Proofs.YtaeoghagpeihkaaDoor

