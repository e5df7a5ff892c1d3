/- A string that came in. -/
import Derived.Test.YtgnpjenpehfjbaaDoorReads
namespace Go.Proofs.YtgnpjenpehfjbaaDoor
open Go.ChangeShapes Go.WideShapes Go.ChangeAt Go.RowKit

theorem read_text {H : Type} {enc : TypeId × Value → H} {W : World} {d : DataW H} {p : List MemPlace} {s : ByteArray}
    (h : DataW.Trod enc Tryd.prog W 0 (fun _ => true) true 9 (.string s) d p) :
    ∃ l : List UInt8, s = ⟨l.toArray⟩ ∧ l.length ≤ maxLen ∧ d = .lit (.string l) := by
  obtain ⟨fuel, hf⟩ := h
  obtain ⟨s', h1, h2, h3⟩ := DataW.trod_string Tryd.underlying9 hf
  simp [Value.cells] at h1
  subst h1
  refine ⟨s.data.toList, by simp, h3, congrArg Prod.fst h2⟩

theorem bulk_text {H : Type} (l : List UInt8) : l.length ≤ Rows.uptoBulk (H := H) (.lit (.string l)) := by
  simp [Rows.uptoBulk]

end Go.Proofs.YtgnpjenpehfjbaaDoor
