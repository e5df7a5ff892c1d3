/- WireBack: the law, walked (by program: wip/tools/gen_wireback.py). -/
import Derived.Test.YtgnpjenpehfjbaaDoorNB
import Derived.Test.YtgnpjenpehfjbaaDoorMX
import Derived.Test.YtgnpjenpehfjbaaDoorML
import Derived.Test.YtgnpjenpehfjbaaDoorMH
set_option linter.unusedSimpArgs false
set_option linter.unusedVariables false
namespace Go.Proofs.YtgnpjenpehfjbaaDoor
open Go.RowKit

theorem Bts.pre {w : World} {B n c : Nat} {ao : Option Addr} {l : List UInt8} (h : Bts w B (.slice ao n c) l) (k : Nat) (hk : k ≤ l.length) : Bts w B (.slice ao k c) (l.take k) := by
  obtain ⟨ao', cap, e, hc, hm, hn, hl⟩ := h
  injection e with e1 e2 e3
  subst e1; subst e3
  have hlen : (l.take k).length = k := by rw [List.length_take]; omega
  refine ⟨ao, c, by rw [hlen], by omega, by omega, hn, fun hne => ?_⟩
  obtain ⟨b, off, r1, r2, r3⟩ := hl (by intro h; subst h; simp at hne)
  refine ⟨b, off, r1, r2, fun i hi => ?_⟩
  rw [hlen] at hi
  rw [r3 i (by omega)]
  simp [List.getD, List.getElem?_take_of_lt hi]

end Go.Proofs.YtgnpjenpehfjbaaDoor

