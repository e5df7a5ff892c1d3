/-
  NARROWER THAN 'FOR EVERY INPUT', by the rows' own cells (each row's printed sentence says how): WireFits: laid · WireItems: laid · WireDecodes: laid · WireBodies: laid · WireTwo: laid · WireAll: laid · WireBack: laid.
  DERIVED. THE GIVEN ROWS OF THIS SEAT. 7 by the template 'for every input the law returns true; each argument reads behind the call as it read before'; 0 by the template 'total and deterministic' (their statements: YtgnpjenpehfjbaaDoorTotals.lean).
  GIVEN WITH THE SEED: the statements are not yours to turn. If you find one false, say at which input.
  Laid BY PROGRAM, IN A SANDBOX (cutbox-rows.mjs): the forced cells as the released guide's own fill.sh prints them over the translation a84fc67c4a0b71d0… (all of the seat's roots in one cut). By AI agents, Wed Nov 11 2026. No macro, syntax, notation, axiom, sorry.
-/
import Derived.Test.YtgnpjenpehfjbaaDoorChecked
import GoSem.Claim
import GoSem.ClaimJoined
import GoSem.ClaimMapViews
import Derived.JoinedTies
import Derived.KernelRfl
namespace Go.Proofs.YtgnpjenpehfjbaaDoor
/- THE CELL 'sum', in the pinned program and in every row, IS THE sha256 OF THE DUMP (.gsa) THAT YtgnpjenpehfjbaaDoorProg.lean LOADS. Nothing in Lean hashes anything: it is a label: what it is worth is what the hold of that sum in a sandbox is worth. -/
noncomputable def Tryd.pinned : Pinned := { name := "ytgnpjenpehfjbaadoor", sum := "a84fc67c4a0b71d0bc1732b177db1ddff0c5210f108d1e4365ab2f583325bf71", checked := Tryd.checked }
namespace Rows
def none {H : Type} : Left H := { results := [], args := [] }

/- WHAT THE LISTED PACKAGE-LEVEL VARIABLES READ AS WHEN THE CALL BEGINS. Each datum BY PROGRAM (the guide's laid-datum.mjs) off the statement by which the dump's own 'gosem.cut.vars' lays the variable. In a bare row this is a premise. The card (YtgnpjenpehfjbaaDoorCards.lean) ties it to the program's text. -/
def laid_eddy_seal_table {H : Type} : DataW H := .agg [.lit (.int .u32 0), .lit (.int .u32 498536548), .lit (.int .u32 997073096), .lit (.int .u32 651767980), .lit (.int .u32 1994146192), .lit (.int .u32 1802195444), .lit (.int .u32 1303535960), .lit (.int .u32 1342533948), .lit (.int .u32 3988292384), .lit (.int .u32 4027552580), .lit (.int .u32 3604390888), .lit (.int .u32 3412177804), .lit (.int .u32 2607071920), .lit (.int .u32 2262029012), .lit (.int .u32 2685067896), .lit (.int .u32 3183342108)]
def laid_bytes_ErrTooLarge {H : Type} : DataW H := .iface "*errors.errorString" (.ptr (.agg [.lit (.string [98, 121, 116, 101, 115, 46, 66, 117, 102, 102, 101, 114, 58, 32, 116, 111, 111, 32, 108, 97, 114, 103, 101])]))

/-- 'eddylaw05.WireFits': WHATEVER THE INPUT: true; the input reads as it did. -/
def wireFitsSpec : ChangeSpec := { name := "wireFits", fn := fun _ => fun
  | [d] => { results := [.lit (.bool true)], args := [d] }
  | _ => none }
def wireFitsRow : OpenClaim := { program := "ytgnpjenpehfjbaadoor", sum := "a84fc67c4a0b71d0bc1732b177db1ddff0c5210f108d1e4365ab2f583325bf71", func := "eddy/eddylaw05.WireFits", spec := "wireFits", unfollowed := true, recurses := true, named := ["bytes.ErrTooLarge", "eddy/seal.table"], apart := false, laid := [("eddy/seal.table", laid_eddy_seal_table), ("bytes.ErrTooLarge", laid_bytes_ErrTooLarge)] }
def WireFitsSaid : Prop := wireFitsRow.holds Tryd.pinned (OpenSpec.ofChange wireFitsSpec)

/-- ITS FALSE NEIGHBOUR: 'it returns false'. Refute it at one input. -/
def wireFitsWrong : ChangeSpec := { name := "wireFits", fn := fun _ => fun
  | [d] => { results := [.lit (.bool false)], args := [d] }
  | _ => none }
def WireFitsWrongFalsely : Prop := wireFitsRow.holds Tryd.pinned (OpenSpec.ofChange wireFitsWrong)

/-- 'eddylaw05.WireItems': WHATEVER THE INPUT: true; the input reads as it did. -/
def wireItemsSpec : ChangeSpec := { name := "wireItems", fn := fun _ => fun
  | [d1, d2] => { results := [.lit (.bool true)], args := [d1, d2] }
  | _ => none }
def wireItemsRow : OpenClaim := { program := "ytgnpjenpehfjbaadoor", sum := "a84fc67c4a0b71d0bc1732b177db1ddff0c5210f108d1e4365ab2f583325bf71", func := "eddy/eddylaw05.WireItems", spec := "wireItems", unfollowed := true, recurses := true, named := ["bytes.ErrTooLarge", "eddy/seal.table"], apart := false, laid := [("eddy/seal.table", laid_eddy_seal_table), ("bytes.ErrTooLarge", laid_bytes_ErrTooLarge)] }
def WireItemsSaid : Prop := wireItemsRow.holds Tryd.pinned (OpenSpec.ofChange wireItemsSpec)

/-- ITS FALSE NEIGHBOUR: 'it returns false'. Refute it at one input. -/
def wireItemsWrong : ChangeSpec := { name := "wireItems", fn := fun _ => fun
  | [d1, d2] => { results := [.lit (.bool false)], args := [d1, d2] }
  | _ => none }
def WireItemsWrongFalsely : Prop := wireItemsRow.holds Tryd.pinned (OpenSpec.ofChange wireItemsWrong)

/-- 'eddylaw05.WireDecodes': WHATEVER THE INPUT: true; the input reads as it did. -/
def wireDecodesSpec : ChangeSpec := { name := "wireDecodes", fn := fun _ => fun
  | [d1, d2, d3, d4] => { results := [.lit (.bool true)], args := [d1, d2, d3, d4] }
  | _ => none }
def wireDecodesRow : OpenClaim := { program := "ytgnpjenpehfjbaadoor", sum := "a84fc67c4a0b71d0bc1732b177db1ddff0c5210f108d1e4365ab2f583325bf71", func := "eddy/eddylaw05.WireDecodes", spec := "wireDecodes", unfollowed := true, recurses := true, named := ["eddy/seal.table", "bytes.ErrTooLarge"], apart := false, laid := [("eddy/seal.table", laid_eddy_seal_table), ("bytes.ErrTooLarge", laid_bytes_ErrTooLarge)] }
def WireDecodesSaid : Prop := wireDecodesRow.holds Tryd.pinned (OpenSpec.ofChange wireDecodesSpec)

/-- ITS FALSE NEIGHBOUR: 'it returns false'. Refute it at one input. -/
def wireDecodesWrong : ChangeSpec := { name := "wireDecodes", fn := fun _ => fun
  | [d1, d2, d3, d4] => { results := [.lit (.bool false)], args := [d1, d2, d3, d4] }
  | _ => none }
def WireDecodesWrongFalsely : Prop := wireDecodesRow.holds Tryd.pinned (OpenSpec.ofChange wireDecodesWrong)

/-- 'eddylaw05.WireBodies': WHATEVER THE INPUT: true; the input reads as it did. -/
def wireBodiesSpec : ChangeSpec := { name := "wireBodies", fn := fun _ => fun
  | [d] => { results := [.lit (.bool true)], args := [d] }
  | _ => none }
def wireBodiesRow : OpenClaim := { program := "ytgnpjenpehfjbaadoor", sum := "a84fc67c4a0b71d0bc1732b177db1ddff0c5210f108d1e4365ab2f583325bf71", func := "eddy/eddylaw05.WireBodies", spec := "wireBodies", unfollowed := true, recurses := true, named := ["bytes.ErrTooLarge", "eddy/seal.table"], apart := false, laid := [("eddy/seal.table", laid_eddy_seal_table), ("bytes.ErrTooLarge", laid_bytes_ErrTooLarge)] }
def WireBodiesSaid : Prop := wireBodiesRow.holds Tryd.pinned (OpenSpec.ofChange wireBodiesSpec)

/-- ITS FALSE NEIGHBOUR: 'it returns false'. Refute it at one input. -/
def wireBodiesWrong : ChangeSpec := { name := "wireBodies", fn := fun _ => fun
  | [d] => { results := [.lit (.bool false)], args := [d] }
  | _ => none }
def WireBodiesWrongFalsely : Prop := wireBodiesRow.holds Tryd.pinned (OpenSpec.ofChange wireBodiesWrong)

/-- 'eddylaw05.WireTwo': WHATEVER THE INPUT: true; the input reads as it did. -/
def wireTwoSpec : ChangeSpec := { name := "wireTwo", fn := fun _ => fun
  | [d1, d2] => { results := [.lit (.bool true)], args := [d1, d2] }
  | _ => none }
def wireTwoRow : OpenClaim := { program := "ytgnpjenpehfjbaadoor", sum := "a84fc67c4a0b71d0bc1732b177db1ddff0c5210f108d1e4365ab2f583325bf71", func := "eddy/eddylaw05.WireTwo", spec := "wireTwo", unfollowed := true, recurses := true, named := ["bytes.ErrTooLarge", "eddy/seal.table"], apart := false, laid := [("eddy/seal.table", laid_eddy_seal_table), ("bytes.ErrTooLarge", laid_bytes_ErrTooLarge)] }
def WireTwoSaid : Prop := wireTwoRow.holds Tryd.pinned (OpenSpec.ofChange wireTwoSpec)

/-- ITS FALSE NEIGHBOUR: 'it returns false'. Refute it at one input. -/
def wireTwoWrong : ChangeSpec := { name := "wireTwo", fn := fun _ => fun
  | [d1, d2] => { results := [.lit (.bool false)], args := [d1, d2] }
  | _ => none }
def WireTwoWrongFalsely : Prop := wireTwoRow.holds Tryd.pinned (OpenSpec.ofChange wireTwoWrong)

/-- 'eddylaw05.WireAll': WHATEVER THE INPUT: true; the input reads as it did. -/
def wireAllSpec : ChangeSpec := { name := "wireAll", fn := fun _ => fun
  | [d1, d2] => { results := [.lit (.bool true)], args := [d1, d2] }
  | _ => none }
def wireAllRow : OpenClaim := { program := "ytgnpjenpehfjbaadoor", sum := "a84fc67c4a0b71d0bc1732b177db1ddff0c5210f108d1e4365ab2f583325bf71", func := "eddy/eddylaw05.WireAll", spec := "wireAll", unfollowed := true, recurses := true, named := ["eddy/seal.table", "bytes.ErrTooLarge"], apart := false, laid := [("eddy/seal.table", laid_eddy_seal_table), ("bytes.ErrTooLarge", laid_bytes_ErrTooLarge)] }
def WireAllSaid : Prop := wireAllRow.holds Tryd.pinned (OpenSpec.ofChange wireAllSpec)

/-- ITS FALSE NEIGHBOUR: 'it returns false'. Refute it at one input. -/
def wireAllWrong : ChangeSpec := { name := "wireAll", fn := fun _ => fun
  | [d1, d2] => { results := [.lit (.bool false)], args := [d1, d2] }
  | _ => none }
def WireAllWrongFalsely : Prop := wireAllRow.holds Tryd.pinned (OpenSpec.ofChange wireAllWrong)

/-- 'eddylaw05.WireBack': WHATEVER THE INPUT: true; the input reads as it did. -/
def wireBackSpec : ChangeSpec := { name := "wireBack", fn := fun _ => fun
  | [d1, d2] => { results := [.lit (.bool true)], args := [d1, d2] }
  | _ => none }
def wireBackRow : OpenClaim := { program := "ytgnpjenpehfjbaadoor", sum := "a84fc67c4a0b71d0bc1732b177db1ddff0c5210f108d1e4365ab2f583325bf71", func := "eddy/eddylaw05.WireBack", spec := "wireBack", unfollowed := true, recurses := true, named := ["bytes.ErrTooLarge", "eddy/seal.table"], apart := false, laid := [("eddy/seal.table", laid_eddy_seal_table), ("bytes.ErrTooLarge", laid_bytes_ErrTooLarge)] }
def WireBackSaid : Prop := wireBackRow.holds Tryd.pinned (OpenSpec.ofChange wireBackSpec)

/-- ITS FALSE NEIGHBOUR: 'it returns false'. Refute it at one input. -/
def wireBackWrong : ChangeSpec := { name := "wireBack", fn := fun _ => fun
  | [d1, d2] => { results := [.lit (.bool false)], args := [d1, d2] }
  | _ => none }
def WireBackWrongFalsely : Prop := wireBackRow.holds Tryd.pinned (OpenSpec.ofChange wireBackWrong)

/- THE SECOND FORM. 'bulk': how many values and letters a reading holds, each counted each time it is reached (what is shared counts as often as it is met; a slice's spare places count too). A statement '..UptoSaid' is the law's where the arguments, and the package variables that the reading takes, are together of bulk at most 1048576: NARROWER than '..Said'. Prove '..Said' where nothing that the law and all that it calls make is longer than what came in: it says more and counts as full. Else prove '..UptoSaid'. A law counts once. -/
mutual
def uptoBulk {H : Type} : DataW H → Nat
  | .lit (.string bytes) => bytes.length + 1
  | .lit _ => 1
  | .nil => 1
  | .ptr d => uptoBulk d + 1
  | .slice elems spare => uptoBulkAll elems + uptoBulkAll spare + 1
  | .agg parts => uptoBulkAll parts + 1
  | .iface _ d => uptoBulk d + 1
  | .map entries => uptoBulkEntries entries + 1
  | .held _ => 1
def uptoBulkAll {H : Type} : List (DataW H) → Nat
  | [] => 0
  | d :: r => uptoBulk d + uptoBulkAll r
def uptoBulkEntries {H : Type} : List (Lit × DataW H) → Nat
  | [] => 0
  | x :: r => uptoBulkEntry x + uptoBulkEntries r
def uptoBulkEntry {H : Type} : Lit × DataW H → Nat
  | (.string bytes, d) => bytes.length + uptoBulk d + 1
  | (_, d) => uptoBulk d + 1
 end
def uptoSmall : (H : Type) → List (DataW H) → Bool := fun _ ds => decide (uptoBulkAll ds ≤ 1048576)
def OpenSpec.upto (s : _root_.Go.ChangeSpec) : _root_.Go.OpenSpec := { _root_.Go.OpenSpec.ofChange s with cond := some uptoSmall }

/-- 'eddylaw05.WireFits', WHERE WHAT IT READS IS OF BULK AT MOST 1048576: true; the input reads as it did. -/
def wireFitsUptoRow : OpenClaim := { program := "ytgnpjenpehfjbaadoor", sum := "a84fc67c4a0b71d0bc1732b177db1ddff0c5210f108d1e4365ab2f583325bf71", func := "eddy/eddylaw05.WireFits", spec := "wireFits", unfollowed := true, recurses := true, named := ["bytes.ErrTooLarge", "eddy/seal.table"], apart := false, laid := [("eddy/seal.table", laid_eddy_seal_table), ("bytes.ErrTooLarge", laid_bytes_ErrTooLarge)], narrowed := true }
def WireFitsUptoSaid : Prop := wireFitsUptoRow.holds Tryd.pinned (OpenSpec.upto wireFitsSpec)

/-- 'eddylaw05.WireItems', WHERE WHAT IT READS IS OF BULK AT MOST 1048576: true; the input reads as it did. -/
def wireItemsUptoRow : OpenClaim := { program := "ytgnpjenpehfjbaadoor", sum := "a84fc67c4a0b71d0bc1732b177db1ddff0c5210f108d1e4365ab2f583325bf71", func := "eddy/eddylaw05.WireItems", spec := "wireItems", unfollowed := true, recurses := true, named := ["bytes.ErrTooLarge", "eddy/seal.table"], apart := false, laid := [("eddy/seal.table", laid_eddy_seal_table), ("bytes.ErrTooLarge", laid_bytes_ErrTooLarge)], narrowed := true }
def WireItemsUptoSaid : Prop := wireItemsUptoRow.holds Tryd.pinned (OpenSpec.upto wireItemsSpec)

/-- 'eddylaw05.WireDecodes', WHERE WHAT IT READS IS OF BULK AT MOST 1048576: true; the input reads as it did. -/
def wireDecodesUptoRow : OpenClaim := { program := "ytgnpjenpehfjbaadoor", sum := "a84fc67c4a0b71d0bc1732b177db1ddff0c5210f108d1e4365ab2f583325bf71", func := "eddy/eddylaw05.WireDecodes", spec := "wireDecodes", unfollowed := true, recurses := true, named := ["eddy/seal.table", "bytes.ErrTooLarge"], apart := false, laid := [("eddy/seal.table", laid_eddy_seal_table), ("bytes.ErrTooLarge", laid_bytes_ErrTooLarge)], narrowed := true }
def WireDecodesUptoSaid : Prop := wireDecodesUptoRow.holds Tryd.pinned (OpenSpec.upto wireDecodesSpec)

/-- 'eddylaw05.WireBodies', WHERE WHAT IT READS IS OF BULK AT MOST 1048576: true; the input reads as it did. -/
def wireBodiesUptoRow : OpenClaim := { program := "ytgnpjenpehfjbaadoor", sum := "a84fc67c4a0b71d0bc1732b177db1ddff0c5210f108d1e4365ab2f583325bf71", func := "eddy/eddylaw05.WireBodies", spec := "wireBodies", unfollowed := true, recurses := true, named := ["bytes.ErrTooLarge", "eddy/seal.table"], apart := false, laid := [("eddy/seal.table", laid_eddy_seal_table), ("bytes.ErrTooLarge", laid_bytes_ErrTooLarge)], narrowed := true }
def WireBodiesUptoSaid : Prop := wireBodiesUptoRow.holds Tryd.pinned (OpenSpec.upto wireBodiesSpec)

/-- 'eddylaw05.WireTwo', WHERE WHAT IT READS IS OF BULK AT MOST 1048576: true; the input reads as it did. -/
def wireTwoUptoRow : OpenClaim := { program := "ytgnpjenpehfjbaadoor", sum := "a84fc67c4a0b71d0bc1732b177db1ddff0c5210f108d1e4365ab2f583325bf71", func := "eddy/eddylaw05.WireTwo", spec := "wireTwo", unfollowed := true, recurses := true, named := ["bytes.ErrTooLarge", "eddy/seal.table"], apart := false, laid := [("eddy/seal.table", laid_eddy_seal_table), ("bytes.ErrTooLarge", laid_bytes_ErrTooLarge)], narrowed := true }
def WireTwoUptoSaid : Prop := wireTwoUptoRow.holds Tryd.pinned (OpenSpec.upto wireTwoSpec)

/-- 'eddylaw05.WireAll', WHERE WHAT IT READS IS OF BULK AT MOST 1048576: true; the input reads as it did. -/
def wireAllUptoRow : OpenClaim := { program := "ytgnpjenpehfjbaadoor", sum := "a84fc67c4a0b71d0bc1732b177db1ddff0c5210f108d1e4365ab2f583325bf71", func := "eddy/eddylaw05.WireAll", spec := "wireAll", unfollowed := true, recurses := true, named := ["eddy/seal.table", "bytes.ErrTooLarge"], apart := false, laid := [("eddy/seal.table", laid_eddy_seal_table), ("bytes.ErrTooLarge", laid_bytes_ErrTooLarge)], narrowed := true }
def WireAllUptoSaid : Prop := wireAllUptoRow.holds Tryd.pinned (OpenSpec.upto wireAllSpec)

/-- 'eddylaw05.WireBack', WHERE WHAT IT READS IS OF BULK AT MOST 1048576: true; the input reads as it did. -/
def wireBackUptoRow : OpenClaim := { program := "ytgnpjenpehfjbaadoor", sum := "a84fc67c4a0b71d0bc1732b177db1ddff0c5210f108d1e4365ab2f583325bf71", func := "eddy/eddylaw05.WireBack", spec := "wireBack", unfollowed := true, recurses := true, named := ["bytes.ErrTooLarge", "eddy/seal.table"], apart := false, laid := [("eddy/seal.table", laid_eddy_seal_table), ("bytes.ErrTooLarge", laid_bytes_ErrTooLarge)], narrowed := true }
def WireBackUptoSaid : Prop := wireBackUptoRow.holds Tryd.pinned (OpenSpec.upto wireBackSpec)

end Rows
end Go.Proofs.YtgnpjenpehfjbaaDoor
