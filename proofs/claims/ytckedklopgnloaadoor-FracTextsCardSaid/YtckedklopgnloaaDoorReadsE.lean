/- The two sentinels of strconv and the three tables that the row lays. -/
import Derived.Test.YtckedklopgnloaaDoorReadsQ
import Derived.Test.YtckedklopgnloaaDoorReadsS
import Derived.Test.YtckedklopgnloaaDoorFracParse
namespace Go.Proofs.YtckedklopgnloaaDoor
open Go.ChangeShapes Go.WideShapes Go.ChangeAt Go.RowKit

theorem gRng : Tryd.prog.globalNamed "strconv.ErrRange" = some 2 := by kernel_rfl
theorem gRngT : (Tryd.prog.globals[2]?).map (·.type) = some 59 := by kernel_rfl
theorem gSyn : Tryd.prog.globalNamed "strconv.ErrSyntax" = some 1 := by kernel_rfl
theorem gSynT : (Tryd.prog.globals[1]?).map (·.type) = some 59 := by kernel_rfl
theorem star_es : "*" ++ "errors.errorString" = "*errors.errorString" := by decide
theorem row_es (u : TypeId) (h : Tryd.prog.typeName? 3 u = some "*errors.errorString") : u = 100 :=
  typeName_ptr_named (nm := "errors.errorString") (by rw [star_es]; kernel_rfl) (by kernel_rfl) (by decide) u (by rw [star_es]; exact h)
theorem cellsES : Tryd.prog.cellsOf 102 = 1 := by kernel_rfl
theorem cellsSt : Tryd.prog.cellsOf 9 = 1 := by kernel_rfl
theorem err_of_laid {W : World} (h : laidMet Tryd.prog (("strconv.ErrRange", Rows.laid_strconv_ErrRange) :: ("strconv.ErrSyntax", Rows.laid_strconv_ErrSyntax) :: []) W) : ErrT W := by
  obtain ⟨a0, s0, hv0, _, _, _⟩ := laid_sentinel h gRng gRngT Tryd.underlying59 row_es Tryd.underlying100 Tryd.underlying102 rfl rfl Tryd.underlying9 cellsES cellsSt
  obtain ⟨a1, s1, hv1, _, _, _⟩ := laid_sentinel h.tail gSyn gSynT Tryd.underlying59 row_es Tryd.underlying100 Tryd.underlying102 rfl rfl Tryd.underlying9 cellsES cellsSt
  exact ⟨⟨_, _, by simpa using World.var?_cell gSyn hv1 0⟩, _, _, by simpa using World.var?_cell gRng hv0 0⟩
theorem tab_of_laid5 {x y r1 r2 : String × DataW Unit} {W : World} (h : laidMet Tryd.prog (x :: y :: ("internal/strconv.uint64pow10", Rows.laid_internal_strconv_uint64pow10) :: r1 :: r2 :: []) W) : TabT W :=
  Lib.tabIs_of_head (rest := [r1, r2]) gPow gPowT Tryd.underlying92 Tryd.underlying49 cellsU64 cellsPow h.tail.tail

/-- a world in which a sentinel lies: its block of text at 'k', the variable at 'g' -/
def sentAt (w : World) (g k : Nat) : World := { w with heap := w.heap.modify g fun | .cells _ t frozen => .cells #[.iface 100 (.pointer (some ⟨k, 0, none⟩))] t frozen | o => o }
def sentText (d : DataW Unit) : Obj := .cells #[.string ⟨(match d with | .iface _ (.ptr (.agg [.lit (.string l)])) => l | _ => []).toArray⟩] 102
noncomputable def lowE : Nat := (World.holding Tryd.prog default ⟨#[], #[], []⟩).heap.size
noncomputable def holdE (os : Os) : World := World.holding Tryd.prog os ⟨#[sentText Rows.laid_strconv_ErrRange, sentText Rows.laid_strconv_ErrSyntax], #[], []⟩
noncomputable def worldE (os : Os) : World := sentAt (sentAt (laying (laying (laying (holdE os) 4 Rows.laid_math_bits_deBruijn32tab) 5 Rows.laid_math_bits_deBruijn64tab) 3 Rows.laid_internal_strconv_uint64pow10) 2 lowE) 1 (lowE + 1)

end Go.Proofs.YtckedklopgnloaaDoor
