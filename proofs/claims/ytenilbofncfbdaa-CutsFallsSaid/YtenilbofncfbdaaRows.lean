/-
  No cell of these rows narrows 'for every input' (looked for: loops, veiled, ifaces, maps, wideKeys, modest, calm, conditions, laid).
  DERIVED. THE GIVEN ROWS OF THIS SEAT. 5 by the template 'for every input the law returns true; each argument reads behind the call as it read before'; 0 by the template 'total and deterministic' (their statements: YtenilbofncfbdaaTotals.lean).
  GIVEN WITH THE SEED: the statements are not yours to turn. If you find one false, say at which input.
  Laid BY PROGRAM, IN A SANDBOX (cutbox-rows.mjs): the forced cells as the released guide's own fill.sh prints them over the translation deab77c49532a690… (all of the seat's roots in one cut). By AI agents, Wed Nov 11 2026. No macro, syntax, notation, axiom, sorry.
-/
import Derived.Test.YtenilbofncfbdaaChecked
import GoSem.Claim
import GoSem.ClaimJoined
import GoSem.ClaimMapViews
import Derived.JoinedTies
import Derived.KernelRfl
namespace Go.Proofs.Ytenilbofncfbdaa
/- THE CELL 'sum', in the pinned program and in every row, IS THE sha256 OF THE DUMP (.gsa) THAT YtenilbofncfbdaaProg.lean LOADS. Nothing in Lean hashes anything: it is a label: what it is worth is what the hold of that sum in a sandbox is worth. -/
noncomputable def Try.pinned : Pinned := { name := "ytenilbofncfbdaa", sum := "deab77c49532a690b22913fea84d469a30f00b4998dfbfb87e5fd2d61be1b6b9", checked := Try.checked }
namespace Rows
def none {H : Type} : Left H := { results := [], args := [] }

/-- 'eddylaw39.CutsParts': WHATEVER THE INPUT: true; the input reads as it did. -/
def cutsPartsSpec : ChangeSpec := { name := "cutsParts", fn := fun _ => fun
  | [d1, d2, d3, d4] => { results := [.lit (.bool true)], args := [d1, d2, d3, d4] }
  | _ => none }
def cutsPartsRow : OpenClaim := { program := "ytenilbofncfbdaa", sum := "deab77c49532a690b22913fea84d469a30f00b4998dfbfb87e5fd2d61be1b6b9", func := "eddy/eddylaw39.CutsParts", spec := "cutsParts", unfollowed := true, recurses := true, apart := false }
def CutsPartsSaid : Prop := cutsPartsRow.holds Try.pinned (OpenSpec.ofChange cutsPartsSpec)

/-- ITS FALSE NEIGHBOUR: 'it returns false'. Refute it at one input. -/
def cutsPartsWrong : ChangeSpec := { name := "cutsParts", fn := fun _ => fun
  | [d1, d2, d3, d4] => { results := [.lit (.bool false)], args := [d1, d2, d3, d4] }
  | _ => none }
def CutsPartsWrongFalsely : Prop := cutsPartsRow.holds Try.pinned (OpenSpec.ofChange cutsPartsWrong)

/-- 'eddylaw39.CutsWays': WHATEVER THE INPUT: true; the input reads as it did. -/
def cutsWaysSpec : ChangeSpec := { name := "cutsWays", fn := fun _ => fun
  | [d1, d2, d3, d4] => { results := [.lit (.bool true)], args := [d1, d2, d3, d4] }
  | _ => none }
def cutsWaysRow : OpenClaim := { program := "ytenilbofncfbdaa", sum := "deab77c49532a690b22913fea84d469a30f00b4998dfbfb87e5fd2d61be1b6b9", func := "eddy/eddylaw39.CutsWays", spec := "cutsWays", unfollowed := true, recurses := true, apart := false }
def CutsWaysSaid : Prop := cutsWaysRow.holds Try.pinned (OpenSpec.ofChange cutsWaysSpec)

/-- ITS FALSE NEIGHBOUR: 'it returns false'. Refute it at one input. -/
def cutsWaysWrong : ChangeSpec := { name := "cutsWays", fn := fun _ => fun
  | [d1, d2, d3, d4] => { results := [.lit (.bool false)], args := [d1, d2, d3, d4] }
  | _ => none }
def CutsWaysWrongFalsely : Prop := cutsWaysRow.holds Try.pinned (OpenSpec.ofChange cutsWaysWrong)

/-- 'eddylaw39.CutsMenger': WHATEVER THE INPUT: true; the input reads as it did. -/
def cutsMengerSpec : ChangeSpec := { name := "cutsMenger", fn := fun _ => fun
  | [d1, d2, d3, d4] => { results := [.lit (.bool true)], args := [d1, d2, d3, d4] }
  | _ => none }
def cutsMengerRow : OpenClaim := { program := "ytenilbofncfbdaa", sum := "deab77c49532a690b22913fea84d469a30f00b4998dfbfb87e5fd2d61be1b6b9", func := "eddy/eddylaw39.CutsMenger", spec := "cutsMenger", unfollowed := true, recurses := true, apart := false }
def CutsMengerSaid : Prop := cutsMengerRow.holds Try.pinned (OpenSpec.ofChange cutsMengerSpec)

/-- ITS FALSE NEIGHBOUR: 'it returns false'. Refute it at one input. -/
def cutsMengerWrong : ChangeSpec := { name := "cutsMenger", fn := fun _ => fun
  | [d1, d2, d3, d4] => { results := [.lit (.bool false)], args := [d1, d2, d3, d4] }
  | _ => none }
def CutsMengerWrongFalsely : Prop := cutsMengerRow.holds Try.pinned (OpenSpec.ofChange cutsMengerWrong)

/-- 'eddylaw39.CutsAgree': WHATEVER THE INPUT: true; the input reads as it did. -/
def cutsAgreeSpec : ChangeSpec := { name := "cutsAgree", fn := fun _ => fun
  | [d1, d2, d3, d4, d5] => { results := [.lit (.bool true)], args := [d1, d2, d3, d4, d5] }
  | _ => none }
def cutsAgreeRow : OpenClaim := { program := "ytenilbofncfbdaa", sum := "deab77c49532a690b22913fea84d469a30f00b4998dfbfb87e5fd2d61be1b6b9", func := "eddy/eddylaw39.CutsAgree", spec := "cutsAgree", unfollowed := true, recurses := true, apart := false }
def CutsAgreeSaid : Prop := cutsAgreeRow.holds Try.pinned (OpenSpec.ofChange cutsAgreeSpec)

/-- ITS FALSE NEIGHBOUR: 'it returns false'. Refute it at one input. -/
def cutsAgreeWrong : ChangeSpec := { name := "cutsAgree", fn := fun _ => fun
  | [d1, d2, d3, d4, d5] => { results := [.lit (.bool false)], args := [d1, d2, d3, d4, d5] }
  | _ => none }
def CutsAgreeWrongFalsely : Prop := cutsAgreeRow.holds Try.pinned (OpenSpec.ofChange cutsAgreeWrong)

/-- 'eddylaw39.CutsFalls': WHATEVER THE INPUT: true; the input reads as it did. -/
def cutsFallsSpec : ChangeSpec := { name := "cutsFalls", fn := fun _ => fun
  | [d1, d2, d3] => { results := [.lit (.bool true)], args := [d1, d2, d3] }
  | _ => none }
def cutsFallsRow : OpenClaim := { program := "ytenilbofncfbdaa", sum := "deab77c49532a690b22913fea84d469a30f00b4998dfbfb87e5fd2d61be1b6b9", func := "eddy/eddylaw39.CutsFalls", spec := "cutsFalls", unfollowed := true, recurses := true, apart := false }
def CutsFallsSaid : Prop := cutsFallsRow.holds Try.pinned (OpenSpec.ofChange cutsFallsSpec)

/-- ITS FALSE NEIGHBOUR: 'it returns false'. Refute it at one input. -/
def cutsFallsWrong : ChangeSpec := { name := "cutsFalls", fn := fun _ => fun
  | [d1, d2, d3] => { results := [.lit (.bool false)], args := [d1, d2, d3] }
  | _ => none }
def CutsFallsWrongFalsely : Prop := cutsFallsRow.holds Try.pinned (OpenSpec.ofChange cutsFallsWrong)

/- THE SECOND FORM. 'bulk': how many values and letters a reading holds, each counted each time it is reached (what is shared counts as often as it is met; a slice's spare places count too). A statement '..UptoSaid' is the law's where the arguments, and the package variables that the reading takes, are together of bulk at most 1048576: NARROWER than '..Said'. Prove '..Said' where nothing that the law and all that it calls make is longer than what came in: it says more and counts as full. Else prove '..UptoSaid'. A law counts once. -/
mutual
def uptoBulk {H : Type} : DataW H → Nat
  | .lit (.string bytes) => bytes.length + 1
  | .lit _ => 1
  | .nil => 1
  | .ptr d => uptoBulk d + 1
  | .slice elems spare => uptoBulkAll elems + uptoBulkAll spare + 1
  | .agg parts => uptoBulkAll parts + 1
  | .iface _ d => uptoBulk d + 1
  | .map entries => uptoBulkEntries entries + 1
  | .held _ => 1
def uptoBulkAll {H : Type} : List (DataW H) → Nat
  | [] => 0
  | d :: r => uptoBulk d + uptoBulkAll r
def uptoBulkEntries {H : Type} : List (Lit × DataW H) → Nat
  | [] => 0
  | x :: r => uptoBulkEntry x + uptoBulkEntries r
def uptoBulkEntry {H : Type} : Lit × DataW H → Nat
  | (.string bytes, d) => bytes.length + uptoBulk d + 1
  | (_, d) => uptoBulk d + 1
 end
def uptoSmall : (H : Type) → List (DataW H) → Bool := fun _ ds => decide (uptoBulkAll ds ≤ 1048576)
def OpenSpec.upto (s : _root_.Go.ChangeSpec) : _root_.Go.OpenSpec := { _root_.Go.OpenSpec.ofChange s with cond := some uptoSmall }

/-- 'eddylaw39.CutsParts', WHERE WHAT IT READS IS OF BULK AT MOST 1048576: true; the input reads as it did. -/
def cutsPartsUptoRow : OpenClaim := { program := "ytenilbofncfbdaa", sum := "deab77c49532a690b22913fea84d469a30f00b4998dfbfb87e5fd2d61be1b6b9", func := "eddy/eddylaw39.CutsParts", spec := "cutsParts", unfollowed := true, recurses := true, apart := false, narrowed := true }
def CutsPartsUptoSaid : Prop := cutsPartsUptoRow.holds Try.pinned (OpenSpec.upto cutsPartsSpec)

/-- 'eddylaw39.CutsWays', WHERE WHAT IT READS IS OF BULK AT MOST 1048576: true; the input reads as it did. -/
def cutsWaysUptoRow : OpenClaim := { program := "ytenilbofncfbdaa", sum := "deab77c49532a690b22913fea84d469a30f00b4998dfbfb87e5fd2d61be1b6b9", func := "eddy/eddylaw39.CutsWays", spec := "cutsWays", unfollowed := true, recurses := true, apart := false, narrowed := true }
def CutsWaysUptoSaid : Prop := cutsWaysUptoRow.holds Try.pinned (OpenSpec.upto cutsWaysSpec)

/-- 'eddylaw39.CutsMenger', WHERE WHAT IT READS IS OF BULK AT MOST 1048576: true; the input reads as it did. -/
def cutsMengerUptoRow : OpenClaim := { program := "ytenilbofncfbdaa", sum := "deab77c49532a690b22913fea84d469a30f00b4998dfbfb87e5fd2d61be1b6b9", func := "eddy/eddylaw39.CutsMenger", spec := "cutsMenger", unfollowed := true, recurses := true, apart := false, narrowed := true }
def CutsMengerUptoSaid : Prop := cutsMengerUptoRow.holds Try.pinned (OpenSpec.upto cutsMengerSpec)

/-- 'eddylaw39.CutsAgree', WHERE WHAT IT READS IS OF BULK AT MOST 1048576: true; the input reads as it did. -/
def cutsAgreeUptoRow : OpenClaim := { program := "ytenilbofncfbdaa", sum := "deab77c49532a690b22913fea84d469a30f00b4998dfbfb87e5fd2d61be1b6b9", func := "eddy/eddylaw39.CutsAgree", spec := "cutsAgree", unfollowed := true, recurses := true, apart := false, narrowed := true }
def CutsAgreeUptoSaid : Prop := cutsAgreeUptoRow.holds Try.pinned (OpenSpec.upto cutsAgreeSpec)

/-- 'eddylaw39.CutsFalls', WHERE WHAT IT READS IS OF BULK AT MOST 1048576: true; the input reads as it did. -/
def cutsFallsUptoRow : OpenClaim := { program := "ytenilbofncfbdaa", sum := "deab77c49532a690b22913fea84d469a30f00b4998dfbfb87e5fd2d61be1b6b9", func := "eddy/eddylaw39.CutsFalls", spec := "cutsFalls", unfollowed := true, recurses := true, apart := false, narrowed := true }
def CutsFallsUptoSaid : Prop := cutsFallsUptoRow.holds Try.pinned (OpenSpec.upto cutsFallsSpec)

end Rows
end Go.Proofs.Ytenilbofncfbdaa
