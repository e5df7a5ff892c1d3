/-
  NARROWER THAN 'FOR EVERY INPUT', by the rows' own cells (each row's printed sentence says how): SealWrites: laid · SealOpens: laid · SealBack: laid · SealSpoilt: laid · SealFinds: laid · SealAll: laid · CodeFields: laid · CodeBack: laid · CodeOneForm: laid.
  DERIVED. THE GIVEN ROWS OF THIS SEAT. 9 by the template 'for every input the law returns true; each argument reads behind the call as it read before'; 0 by the template 'total and deterministic' (their statements: YtmekpmboghmfpaaDoorTotals.lean).
  GIVEN WITH THE SEED: the statements are not yours to turn. If you find one false, say at which input.
  Laid BY PROGRAM, IN A SANDBOX (cutbox-rows.mjs): the forced cells as the released guide's own fill.sh prints them over the translation 38a10d0cf96a57c9… (all of the seat's roots in one cut). By AI agents, Wed Nov 11 2026. No macro, syntax, notation, axiom, sorry.
-/
import Derived.Test.YtmekpmboghmfpaaDoorChecked
import GoSem.Claim
import GoSem.ClaimJoined
import GoSem.ClaimMapViews
import Derived.JoinedTies
import Derived.KernelRfl
namespace Go.Proofs.YtmekpmboghmfpaaDoor
/- THE CELL 'sum', in the pinned program and in every row, IS THE sha256 OF THE DUMP (.gsa) THAT YtmekpmboghmfpaaDoorProg.lean LOADS. Nothing in Lean hashes anything: it is a label: what it is worth is what the hold of that sum in a sandbox is worth. -/
noncomputable def Tryd.pinned : Pinned := { name := "ytmekpmboghmfpaadoor", sum := "38a10d0cf96a57c978ea27cf2dd1ef1bec00a5c88e7bf1be2f9c5e8df3e0ae51", checked := Tryd.checked }
namespace Rows
def none {H : Type} : Left H := { results := [], args := [] }

/- WHAT THE LISTED PACKAGE-LEVEL VARIABLES READ AS WHEN THE CALL BEGINS. Each datum BY PROGRAM (the guide's laid-datum.mjs) off the statement by which the dump's own 'gosem.cut.vars' lays the variable. In a bare row this is a premise. The card (YtmekpmboghmfpaaDoorCards.lean) ties it to the program's text. -/
def laid_eddy_seal_table {H : Type} : DataW H := .agg [.lit (.int .u32 0), .lit (.int .u32 498536548), .lit (.int .u32 997073096), .lit (.int .u32 651767980), .lit (.int .u32 1994146192), .lit (.int .u32 1802195444), .lit (.int .u32 1303535960), .lit (.int .u32 1342533948), .lit (.int .u32 3988292384), .lit (.int .u32 4027552580), .lit (.int .u32 3604390888), .lit (.int .u32 3412177804), .lit (.int .u32 2607071920), .lit (.int .u32 2262029012), .lit (.int .u32 2685067896), .lit (.int .u32 3183342108)]
def laid_bytes_ErrTooLarge {H : Type} : DataW H := .iface "*errors.errorString" (.ptr (.agg [.lit (.string [98, 121, 116, 101, 115, 46, 66, 117, 102, 102, 101, 114, 58, 32, 116, 111, 111, 32, 108, 97, 114, 103, 101])]))

/-- 'eddylaw04.SealWrites': WHATEVER THE INPUT: true; the input reads as it did. -/
def sealWritesSpec : ChangeSpec := { name := "sealWrites", fn := fun _ => fun
  | [d] => { results := [.lit (.bool true)], args := [d] }
  | _ => none }
def sealWritesRow : OpenClaim := { program := "ytmekpmboghmfpaadoor", sum := "38a10d0cf96a57c978ea27cf2dd1ef1bec00a5c88e7bf1be2f9c5e8df3e0ae51", func := "eddy/eddylaw04.SealWrites", spec := "sealWrites", unfollowed := true, recurses := true, named := ["eddy/seal.table"], apart := false, laid := [("eddy/seal.table", laid_eddy_seal_table)] }
def SealWritesSaid : Prop := sealWritesRow.holds Tryd.pinned (OpenSpec.ofChange sealWritesSpec)

/-- ITS FALSE NEIGHBOUR: 'it returns false'. Refute it at one input. -/
def sealWritesWrong : ChangeSpec := { name := "sealWrites", fn := fun _ => fun
  | [d] => { results := [.lit (.bool false)], args := [d] }
  | _ => none }
def SealWritesWrongFalsely : Prop := sealWritesRow.holds Tryd.pinned (OpenSpec.ofChange sealWritesWrong)

/-- 'eddylaw04.SealOpens': WHATEVER THE INPUT: true; the input reads as it did. -/
def sealOpensSpec : ChangeSpec := { name := "sealOpens", fn := fun _ => fun
  | [d1, d2] => { results := [.lit (.bool true)], args := [d1, d2] }
  | _ => none }
def sealOpensRow : OpenClaim := { program := "ytmekpmboghmfpaadoor", sum := "38a10d0cf96a57c978ea27cf2dd1ef1bec00a5c88e7bf1be2f9c5e8df3e0ae51", func := "eddy/eddylaw04.SealOpens", spec := "sealOpens", unfollowed := true, recurses := true, named := ["eddy/seal.table"], apart := false, laid := [("eddy/seal.table", laid_eddy_seal_table)] }
def SealOpensSaid : Prop := sealOpensRow.holds Tryd.pinned (OpenSpec.ofChange sealOpensSpec)

/-- ITS FALSE NEIGHBOUR: 'it returns false'. Refute it at one input. -/
def sealOpensWrong : ChangeSpec := { name := "sealOpens", fn := fun _ => fun
  | [d1, d2] => { results := [.lit (.bool false)], args := [d1, d2] }
  | _ => none }
def SealOpensWrongFalsely : Prop := sealOpensRow.holds Tryd.pinned (OpenSpec.ofChange sealOpensWrong)

/-- 'eddylaw04.SealBack': WHATEVER THE INPUT: true; the input reads as it did. -/
def sealBackSpec : ChangeSpec := { name := "sealBack", fn := fun _ => fun
  | [d1, d2, d3] => { results := [.lit (.bool true)], args := [d1, d2, d3] }
  | _ => none }
def sealBackRow : OpenClaim := { program := "ytmekpmboghmfpaadoor", sum := "38a10d0cf96a57c978ea27cf2dd1ef1bec00a5c88e7bf1be2f9c5e8df3e0ae51", func := "eddy/eddylaw04.SealBack", spec := "sealBack", unfollowed := true, recurses := true, named := ["eddy/seal.table"], apart := false, laid := [("eddy/seal.table", laid_eddy_seal_table)] }
def SealBackSaid : Prop := sealBackRow.holds Tryd.pinned (OpenSpec.ofChange sealBackSpec)

/-- ITS FALSE NEIGHBOUR: 'it returns false'. Refute it at one input. -/
def sealBackWrong : ChangeSpec := { name := "sealBack", fn := fun _ => fun
  | [d1, d2, d3] => { results := [.lit (.bool false)], args := [d1, d2, d3] }
  | _ => none }
def SealBackWrongFalsely : Prop := sealBackRow.holds Tryd.pinned (OpenSpec.ofChange sealBackWrong)

/-- 'eddylaw04.SealSpoilt': WHATEVER THE INPUT: true; the input reads as it did. -/
def sealSpoiltSpec : ChangeSpec := { name := "sealSpoilt", fn := fun _ => fun
  | [d1, d2, d3] => { results := [.lit (.bool true)], args := [d1, d2, d3] }
  | _ => none }
def sealSpoiltRow : OpenClaim := { program := "ytmekpmboghmfpaadoor", sum := "38a10d0cf96a57c978ea27cf2dd1ef1bec00a5c88e7bf1be2f9c5e8df3e0ae51", func := "eddy/eddylaw04.SealSpoilt", spec := "sealSpoilt", unfollowed := true, recurses := true, named := ["eddy/seal.table"], apart := false, laid := [("eddy/seal.table", laid_eddy_seal_table)] }
def SealSpoiltSaid : Prop := sealSpoiltRow.holds Tryd.pinned (OpenSpec.ofChange sealSpoiltSpec)

/-- ITS FALSE NEIGHBOUR: 'it returns false'. Refute it at one input. -/
def sealSpoiltWrong : ChangeSpec := { name := "sealSpoilt", fn := fun _ => fun
  | [d1, d2, d3] => { results := [.lit (.bool false)], args := [d1, d2, d3] }
  | _ => none }
def SealSpoiltWrongFalsely : Prop := sealSpoiltRow.holds Tryd.pinned (OpenSpec.ofChange sealSpoiltWrong)

/-- 'eddylaw04.SealFinds': WHATEVER THE INPUT: true; the input reads as it did. -/
def sealFindsSpec : ChangeSpec := { name := "sealFinds", fn := fun _ => fun
  | [d1, d2] => { results := [.lit (.bool true)], args := [d1, d2] }
  | _ => none }
def sealFindsRow : OpenClaim := { program := "ytmekpmboghmfpaadoor", sum := "38a10d0cf96a57c978ea27cf2dd1ef1bec00a5c88e7bf1be2f9c5e8df3e0ae51", func := "eddy/eddylaw04.SealFinds", spec := "sealFinds", unfollowed := true, recurses := true, named := ["eddy/seal.table"], apart := false, laid := [("eddy/seal.table", laid_eddy_seal_table)] }
def SealFindsSaid : Prop := sealFindsRow.holds Tryd.pinned (OpenSpec.ofChange sealFindsSpec)

/-- ITS FALSE NEIGHBOUR: 'it returns false'. Refute it at one input. -/
def sealFindsWrong : ChangeSpec := { name := "sealFinds", fn := fun _ => fun
  | [d1, d2] => { results := [.lit (.bool false)], args := [d1, d2] }
  | _ => none }
def SealFindsWrongFalsely : Prop := sealFindsRow.holds Tryd.pinned (OpenSpec.ofChange sealFindsWrong)

/-- 'eddylaw04.SealAll': WHATEVER THE INPUT: true; the input reads as it did. -/
def sealAllSpec : ChangeSpec := { name := "sealAll", fn := fun _ => fun
  | [d1, d2] => { results := [.lit (.bool true)], args := [d1, d2] }
  | _ => none }
def sealAllRow : OpenClaim := { program := "ytmekpmboghmfpaadoor", sum := "38a10d0cf96a57c978ea27cf2dd1ef1bec00a5c88e7bf1be2f9c5e8df3e0ae51", func := "eddy/eddylaw04.SealAll", spec := "sealAll", unfollowed := true, recurses := true, named := ["eddy/seal.table"], apart := false, laid := [("eddy/seal.table", laid_eddy_seal_table)] }
def SealAllSaid : Prop := sealAllRow.holds Tryd.pinned (OpenSpec.ofChange sealAllSpec)

/-- ITS FALSE NEIGHBOUR: 'it returns false'. Refute it at one input. -/
def sealAllWrong : ChangeSpec := { name := "sealAll", fn := fun _ => fun
  | [d1, d2] => { results := [.lit (.bool false)], args := [d1, d2] }
  | _ => none }
def SealAllWrongFalsely : Prop := sealAllRow.holds Tryd.pinned (OpenSpec.ofChange sealAllWrong)

/-- 'eddylaw03.CodeFields': WHATEVER THE INPUT: true; the input reads as it did. -/
def codeFieldsSpec : ChangeSpec := { name := "codeFields", fn := fun _ => fun
  | [d] => { results := [.lit (.bool true)], args := [d] }
  | _ => none }
def codeFieldsRow : OpenClaim := { program := "ytmekpmboghmfpaadoor", sum := "38a10d0cf96a57c978ea27cf2dd1ef1bec00a5c88e7bf1be2f9c5e8df3e0ae51", func := "eddy/eddylaw03.CodeFields", spec := "codeFields", unfollowed := true, recurses := true, named := ["bytes.ErrTooLarge"], apart := false, laid := [("bytes.ErrTooLarge", laid_bytes_ErrTooLarge)] }
def CodeFieldsSaid : Prop := codeFieldsRow.holds Tryd.pinned (OpenSpec.ofChange codeFieldsSpec)

/-- ITS FALSE NEIGHBOUR: 'it returns false'. Refute it at one input. -/
def codeFieldsWrong : ChangeSpec := { name := "codeFields", fn := fun _ => fun
  | [d] => { results := [.lit (.bool false)], args := [d] }
  | _ => none }
def CodeFieldsWrongFalsely : Prop := codeFieldsRow.holds Tryd.pinned (OpenSpec.ofChange codeFieldsWrong)

/-- 'eddylaw03.CodeBack': WHATEVER THE INPUT: true; the input reads as it did. -/
def codeBackSpec : ChangeSpec := { name := "codeBack", fn := fun _ => fun
  | [d1, d2, d3] => { results := [.lit (.bool true)], args := [d1, d2, d3] }
  | _ => none }
def codeBackRow : OpenClaim := { program := "ytmekpmboghmfpaadoor", sum := "38a10d0cf96a57c978ea27cf2dd1ef1bec00a5c88e7bf1be2f9c5e8df3e0ae51", func := "eddy/eddylaw03.CodeBack", spec := "codeBack", unfollowed := true, recurses := true, named := ["bytes.ErrTooLarge"], apart := false, laid := [("bytes.ErrTooLarge", laid_bytes_ErrTooLarge)] }
def CodeBackSaid : Prop := codeBackRow.holds Tryd.pinned (OpenSpec.ofChange codeBackSpec)

/-- ITS FALSE NEIGHBOUR: 'it returns false'. Refute it at one input. -/
def codeBackWrong : ChangeSpec := { name := "codeBack", fn := fun _ => fun
  | [d1, d2, d3] => { results := [.lit (.bool false)], args := [d1, d2, d3] }
  | _ => none }
def CodeBackWrongFalsely : Prop := codeBackRow.holds Tryd.pinned (OpenSpec.ofChange codeBackWrong)

/-- 'eddylaw03.CodeOneForm': WHATEVER THE INPUT: true; the input reads as it did. -/
def codeOneFormSpec : ChangeSpec := { name := "codeOneForm", fn := fun _ => fun
  | [d1, d2] => { results := [.lit (.bool true)], args := [d1, d2] }
  | _ => none }
def codeOneFormRow : OpenClaim := { program := "ytmekpmboghmfpaadoor", sum := "38a10d0cf96a57c978ea27cf2dd1ef1bec00a5c88e7bf1be2f9c5e8df3e0ae51", func := "eddy/eddylaw03.CodeOneForm", spec := "codeOneForm", unfollowed := true, recurses := true, named := ["bytes.ErrTooLarge"], apart := false, laid := [("bytes.ErrTooLarge", laid_bytes_ErrTooLarge)] }
def CodeOneFormSaid : Prop := codeOneFormRow.holds Tryd.pinned (OpenSpec.ofChange codeOneFormSpec)

/-- ITS FALSE NEIGHBOUR: 'it returns false'. Refute it at one input. -/
def codeOneFormWrong : ChangeSpec := { name := "codeOneForm", fn := fun _ => fun
  | [d1, d2] => { results := [.lit (.bool false)], args := [d1, d2] }
  | _ => none }
def CodeOneFormWrongFalsely : Prop := codeOneFormRow.holds Tryd.pinned (OpenSpec.ofChange codeOneFormWrong)

/- THE SECOND FORM. 'bulk': how many values and letters a reading holds, each counted each time it is reached (what is shared counts as often as it is met; a slice's spare places count too). A statement '..UptoSaid' is the law's where the arguments, and the package variables that the reading takes, are together of bulk at most 1048576: NARROWER than '..Said'. Prove '..Said' where nothing that the law and all that it calls make is longer than what came in: it says more and counts as full. Else prove '..UptoSaid'. A law counts once. -/
mutual
def uptoBulk {H : Type} : DataW H → Nat
  | .lit (.string bytes) => bytes.length + 1
  | .lit _ => 1
  | .nil => 1
  | .ptr d => uptoBulk d + 1
  | .slice elems spare => uptoBulkAll elems + uptoBulkAll spare + 1
  | .agg parts => uptoBulkAll parts + 1
  | .iface _ d => uptoBulk d + 1
  | .map entries => uptoBulkEntries entries + 1
  | .held _ => 1
def uptoBulkAll {H : Type} : List (DataW H) → Nat
  | [] => 0
  | d :: r => uptoBulk d + uptoBulkAll r
def uptoBulkEntries {H : Type} : List (Lit × DataW H) → Nat
  | [] => 0
  | x :: r => uptoBulkEntry x + uptoBulkEntries r
def uptoBulkEntry {H : Type} : Lit × DataW H → Nat
  | (.string bytes, d) => bytes.length + uptoBulk d + 1
  | (_, d) => uptoBulk d + 1
 end
def uptoSmall : (H : Type) → List (DataW H) → Bool := fun _ ds => decide (uptoBulkAll ds ≤ 1048576)
def OpenSpec.upto (s : _root_.Go.ChangeSpec) : _root_.Go.OpenSpec := { _root_.Go.OpenSpec.ofChange s with cond := some uptoSmall }

/-- 'eddylaw04.SealWrites', WHERE WHAT IT READS IS OF BULK AT MOST 1048576: true; the input reads as it did. -/
def sealWritesUptoRow : OpenClaim := { program := "ytmekpmboghmfpaadoor", sum := "38a10d0cf96a57c978ea27cf2dd1ef1bec00a5c88e7bf1be2f9c5e8df3e0ae51", func := "eddy/eddylaw04.SealWrites", spec := "sealWrites", unfollowed := true, recurses := true, named := ["eddy/seal.table"], apart := false, laid := [("eddy/seal.table", laid_eddy_seal_table)], narrowed := true }
def SealWritesUptoSaid : Prop := sealWritesUptoRow.holds Tryd.pinned (OpenSpec.upto sealWritesSpec)

/-- 'eddylaw04.SealOpens', WHERE WHAT IT READS IS OF BULK AT MOST 1048576: true; the input reads as it did. -/
def sealOpensUptoRow : OpenClaim := { program := "ytmekpmboghmfpaadoor", sum := "38a10d0cf96a57c978ea27cf2dd1ef1bec00a5c88e7bf1be2f9c5e8df3e0ae51", func := "eddy/eddylaw04.SealOpens", spec := "sealOpens", unfollowed := true, recurses := true, named := ["eddy/seal.table"], apart := false, laid := [("eddy/seal.table", laid_eddy_seal_table)], narrowed := true }
def SealOpensUptoSaid : Prop := sealOpensUptoRow.holds Tryd.pinned (OpenSpec.upto sealOpensSpec)

/-- 'eddylaw04.SealBack', WHERE WHAT IT READS IS OF BULK AT MOST 1048576: true; the input reads as it did. -/
def sealBackUptoRow : OpenClaim := { program := "ytmekpmboghmfpaadoor", sum := "38a10d0cf96a57c978ea27cf2dd1ef1bec00a5c88e7bf1be2f9c5e8df3e0ae51", func := "eddy/eddylaw04.SealBack", spec := "sealBack", unfollowed := true, recurses := true, named := ["eddy/seal.table"], apart := false, laid := [("eddy/seal.table", laid_eddy_seal_table)], narrowed := true }
def SealBackUptoSaid : Prop := sealBackUptoRow.holds Tryd.pinned (OpenSpec.upto sealBackSpec)

/-- 'eddylaw04.SealSpoilt', WHERE WHAT IT READS IS OF BULK AT MOST 1048576: true; the input reads as it did. -/
def sealSpoiltUptoRow : OpenClaim := { program := "ytmekpmboghmfpaadoor", sum := "38a10d0cf96a57c978ea27cf2dd1ef1bec00a5c88e7bf1be2f9c5e8df3e0ae51", func := "eddy/eddylaw04.SealSpoilt", spec := "sealSpoilt", unfollowed := true, recurses := true, named := ["eddy/seal.table"], apart := false, laid := [("eddy/seal.table", laid_eddy_seal_table)], narrowed := true }
def SealSpoiltUptoSaid : Prop := sealSpoiltUptoRow.holds Tryd.pinned (OpenSpec.upto sealSpoiltSpec)

/-- 'eddylaw04.SealFinds', WHERE WHAT IT READS IS OF BULK AT MOST 1048576: true; the input reads as it did. -/
def sealFindsUptoRow : OpenClaim := { program := "ytmekpmboghmfpaadoor", sum := "38a10d0cf96a57c978ea27cf2dd1ef1bec00a5c88e7bf1be2f9c5e8df3e0ae51", func := "eddy/eddylaw04.SealFinds", spec := "sealFinds", unfollowed := true, recurses := true, named := ["eddy/seal.table"], apart := false, laid := [("eddy/seal.table", laid_eddy_seal_table)], narrowed := true }
def SealFindsUptoSaid : Prop := sealFindsUptoRow.holds Tryd.pinned (OpenSpec.upto sealFindsSpec)

/-- 'eddylaw04.SealAll', WHERE WHAT IT READS IS OF BULK AT MOST 1048576: true; the input reads as it did. -/
def sealAllUptoRow : OpenClaim := { program := "ytmekpmboghmfpaadoor", sum := "38a10d0cf96a57c978ea27cf2dd1ef1bec00a5c88e7bf1be2f9c5e8df3e0ae51", func := "eddy/eddylaw04.SealAll", spec := "sealAll", unfollowed := true, recurses := true, named := ["eddy/seal.table"], apart := false, laid := [("eddy/seal.table", laid_eddy_seal_table)], narrowed := true }
def SealAllUptoSaid : Prop := sealAllUptoRow.holds Tryd.pinned (OpenSpec.upto sealAllSpec)

/-- 'eddylaw03.CodeFields', WHERE WHAT IT READS IS OF BULK AT MOST 1048576: true; the input reads as it did. -/
def codeFieldsUptoRow : OpenClaim := { program := "ytmekpmboghmfpaadoor", sum := "38a10d0cf96a57c978ea27cf2dd1ef1bec00a5c88e7bf1be2f9c5e8df3e0ae51", func := "eddy/eddylaw03.CodeFields", spec := "codeFields", unfollowed := true, recurses := true, named := ["bytes.ErrTooLarge"], apart := false, laid := [("bytes.ErrTooLarge", laid_bytes_ErrTooLarge)], narrowed := true }
def CodeFieldsUptoSaid : Prop := codeFieldsUptoRow.holds Tryd.pinned (OpenSpec.upto codeFieldsSpec)

/-- 'eddylaw03.CodeBack', WHERE WHAT IT READS IS OF BULK AT MOST 1048576: true; the input reads as it did. -/
def codeBackUptoRow : OpenClaim := { program := "ytmekpmboghmfpaadoor", sum := "38a10d0cf96a57c978ea27cf2dd1ef1bec00a5c88e7bf1be2f9c5e8df3e0ae51", func := "eddy/eddylaw03.CodeBack", spec := "codeBack", unfollowed := true, recurses := true, named := ["bytes.ErrTooLarge"], apart := false, laid := [("bytes.ErrTooLarge", laid_bytes_ErrTooLarge)], narrowed := true }
def CodeBackUptoSaid : Prop := codeBackUptoRow.holds Tryd.pinned (OpenSpec.upto codeBackSpec)

/-- 'eddylaw03.CodeOneForm', WHERE WHAT IT READS IS OF BULK AT MOST 1048576: true; the input reads as it did. -/
def codeOneFormUptoRow : OpenClaim := { program := "ytmekpmboghmfpaadoor", sum := "38a10d0cf96a57c978ea27cf2dd1ef1bec00a5c88e7bf1be2f9c5e8df3e0ae51", func := "eddy/eddylaw03.CodeOneForm", spec := "codeOneForm", unfollowed := true, recurses := true, named := ["bytes.ErrTooLarge"], apart := false, laid := [("bytes.ErrTooLarge", laid_bytes_ErrTooLarge)], narrowed := true }
def CodeOneFormUptoSaid : Prop := codeOneFormUptoRow.holds Tryd.pinned (OpenSpec.upto codeOneFormSpec)

end Rows
end Go.Proofs.YtmekpmboghmfpaaDoor
