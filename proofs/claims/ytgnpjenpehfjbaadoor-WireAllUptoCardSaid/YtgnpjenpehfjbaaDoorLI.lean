/- The bulk of rows of packets, sealed whether fit or not. -/
import Derived.Test.YtgnpjenpehfjbaaDoorLD
import Derived.Test.YtgnpjenpehfjbaaDoorLH
import Derived.Test.YtgnpjenpehfjbaaDoorLG
set_option linter.unusedSimpArgs false
set_option linter.unusedVariables false
namespace Go.Proofs.YtgnpjenpehfjbaaDoor
open Go.ChangeShapes Go.WideShapes Go.ChangeAt Go.RowKit

theorem forges_bulk (qs : List (Pkt × Value)) (h : ∀ q ∈ qs, PkOk q.1) : (forges qs).length ≤ 88 * bulkQ qs := by
  unfold forges bulkQ
  induction qs with
  | nil => simp
  | cons q r ih =>
    have h1 := forgeF_bulk fun x hx => ((h q List.mem_cons_self).items x hx).2
    have h2 := ih fun y hy => h y (List.mem_cons_of_mem _ hy)
    simp only [List.map_cons, List.sum_cons, List.flatMap_cons, List.length_append]
    omega
theorem bulkQ_mem {qs : List (Pkt × Value)} {q : Pkt × Value} (h : q ∈ qs) : bulkX q.1.items + 1 ≤ bulkQ qs := by
  unfold bulkQ
  induction qs with
  | nil => cases h
  | cons a r ih =>
    simp only [List.map_cons, List.sum_cons]
    rcases List.mem_cons.1 h with rfl | h
    · omega
    · have := ih h; omega

end Go.Proofs.YtgnpjenpehfjbaaDoor

