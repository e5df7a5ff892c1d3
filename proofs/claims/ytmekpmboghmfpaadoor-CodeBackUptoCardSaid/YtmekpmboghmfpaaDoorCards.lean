/-
  DERIVED. GIVEN WITH THE SEED: THE CARDS: each row of YtmekpmboghmfpaaDoorRows.lean that lists a variable, with what it lists TIED to the program's text (the seventh form; the later family's looks); each row that meets fmt, with fmt's text TOLD by the authors' own Lean function (tested against real Go, not proved from fmt's source: count such statements apart). THE CARD IS WHAT COUNTS. Prove the row's statement (the work); the ties are given (YtmekpmboghmfpaaDoorTie.lean); close each card by the builder's one call (the guide's Derived/Test/ToyasCard.lean, 'card_holds'). Laid BY PROGRAM, IN A SANDBOX (cutbox-door.mjs). By AI agents, Wed Nov 11 2026. No macro, syntax, notation, axiom, sorry.
-/
import Derived.Test.YtmekpmboghmfpaaDoorRows
import GoSem.ClaimSeven
namespace Go.Proofs.YtmekpmboghmfpaaDoor
namespace Rows

/-- THE TIED CARD OF 'eddylaw04.SealWrites'. -/
def sealWritesCard : Claim7 := { stood := { row := sealWritesRow, standIns := [], harness := (true, "8d352e2fae698392f4afc2232020357f249acfc55f70d4dd2f51ab451cdfb268"), looks := true }, kinds := [], alts := [], laidByText := true, laidKinds := [.data], laidTests := true, laidLooks := .later }
def SealWritesCardSaid : Prop := Claim7.holds Tryd.pinned (.plain (OpenSpec.ofChange sealWritesSpec)) sealWritesCard

/-- THE TIED CARD OF 'eddylaw04.SealOpens'. -/
def sealOpensCard : Claim7 := { stood := { row := sealOpensRow, standIns := [], harness := (true, "8d352e2fae698392f4afc2232020357f249acfc55f70d4dd2f51ab451cdfb268"), looks := true }, kinds := [], alts := [], laidByText := true, laidKinds := [.data], laidTests := true, laidLooks := .later }
def SealOpensCardSaid : Prop := Claim7.holds Tryd.pinned (.plain (OpenSpec.ofChange sealOpensSpec)) sealOpensCard

/-- THE TIED CARD OF 'eddylaw04.SealBack'. -/
def sealBackCard : Claim7 := { stood := { row := sealBackRow, standIns := [], harness := (true, "8d352e2fae698392f4afc2232020357f249acfc55f70d4dd2f51ab451cdfb268"), looks := true }, kinds := [], alts := [], laidByText := true, laidKinds := [.data], laidTests := true, laidLooks := .later }
def SealBackCardSaid : Prop := Claim7.holds Tryd.pinned (.plain (OpenSpec.ofChange sealBackSpec)) sealBackCard

/-- THE TIED CARD OF 'eddylaw04.SealSpoilt'. -/
def sealSpoiltCard : Claim7 := { stood := { row := sealSpoiltRow, standIns := [], harness := (true, "8d352e2fae698392f4afc2232020357f249acfc55f70d4dd2f51ab451cdfb268"), looks := true }, kinds := [], alts := [], laidByText := true, laidKinds := [.data], laidTests := true, laidLooks := .later }
def SealSpoiltCardSaid : Prop := Claim7.holds Tryd.pinned (.plain (OpenSpec.ofChange sealSpoiltSpec)) sealSpoiltCard

/-- THE TIED CARD OF 'eddylaw04.SealFinds'. -/
def sealFindsCard : Claim7 := { stood := { row := sealFindsRow, standIns := [], harness := (true, "8d352e2fae698392f4afc2232020357f249acfc55f70d4dd2f51ab451cdfb268"), looks := true }, kinds := [], alts := [], laidByText := true, laidKinds := [.data], laidTests := true, laidLooks := .later }
def SealFindsCardSaid : Prop := Claim7.holds Tryd.pinned (.plain (OpenSpec.ofChange sealFindsSpec)) sealFindsCard

/-- THE TIED CARD OF 'eddylaw04.SealAll'. -/
def sealAllCard : Claim7 := { stood := { row := sealAllRow, standIns := [], harness := (true, "8d352e2fae698392f4afc2232020357f249acfc55f70d4dd2f51ab451cdfb268"), looks := true }, kinds := [], alts := [], laidByText := true, laidKinds := [.data], laidTests := true, laidLooks := .later }
def SealAllCardSaid : Prop := Claim7.holds Tryd.pinned (.plain (OpenSpec.ofChange sealAllSpec)) sealAllCard

/-- THE TIED CARD OF 'eddylaw03.CodeFields'. -/
def codeFieldsCard : Claim7 := { stood := { row := codeFieldsRow, standIns := [], harness := (true, "8d352e2fae698392f4afc2232020357f249acfc55f70d4dd2f51ab451cdfb268"), looks := true }, kinds := [], alts := [], laidByText := true, laidKinds := [.sentinel], laidTests := true, laidLooks := .later }
def CodeFieldsCardSaid : Prop := Claim7.holds Tryd.pinned (.plain (OpenSpec.ofChange codeFieldsSpec)) codeFieldsCard

/-- THE TIED CARD OF 'eddylaw03.CodeBack'. -/
def codeBackCard : Claim7 := { stood := { row := codeBackRow, standIns := [], harness := (true, "8d352e2fae698392f4afc2232020357f249acfc55f70d4dd2f51ab451cdfb268"), looks := true }, kinds := [], alts := [], laidByText := true, laidKinds := [.sentinel], laidTests := true, laidLooks := .later }
def CodeBackCardSaid : Prop := Claim7.holds Tryd.pinned (.plain (OpenSpec.ofChange codeBackSpec)) codeBackCard

/-- THE TIED CARD OF 'eddylaw03.CodeOneForm'. -/
def codeOneFormCard : Claim7 := { stood := { row := codeOneFormRow, standIns := [], harness := (true, "8d352e2fae698392f4afc2232020357f249acfc55f70d4dd2f51ab451cdfb268"), looks := true }, kinds := [], alts := [], laidByText := true, laidKinds := [.sentinel], laidTests := true, laidLooks := .later }
def CodeOneFormCardSaid : Prop := Claim7.holds Tryd.pinned (.plain (OpenSpec.ofChange codeOneFormSpec)) codeOneFormCard

/-- THE SECOND FORM's CARD OF 'eddylaw04.SealWrites'. -/
def sealWritesUptoCard : Claim7 := { stood := { row := sealWritesUptoRow, standIns := [], harness := (true, "8d352e2fae698392f4afc2232020357f249acfc55f70d4dd2f51ab451cdfb268"), looks := true }, kinds := [], alts := [], laidByText := true, laidKinds := [.data], laidTests := true, laidLooks := .later }
def SealWritesUptoCardSaid : Prop := Claim7.holds Tryd.pinned (.plain (OpenSpec.upto sealWritesSpec)) sealWritesUptoCard

/-- THE SECOND FORM's CARD OF 'eddylaw04.SealOpens'. -/
def sealOpensUptoCard : Claim7 := { stood := { row := sealOpensUptoRow, standIns := [], harness := (true, "8d352e2fae698392f4afc2232020357f249acfc55f70d4dd2f51ab451cdfb268"), looks := true }, kinds := [], alts := [], laidByText := true, laidKinds := [.data], laidTests := true, laidLooks := .later }
def SealOpensUptoCardSaid : Prop := Claim7.holds Tryd.pinned (.plain (OpenSpec.upto sealOpensSpec)) sealOpensUptoCard

/-- THE SECOND FORM's CARD OF 'eddylaw04.SealBack'. -/
def sealBackUptoCard : Claim7 := { stood := { row := sealBackUptoRow, standIns := [], harness := (true, "8d352e2fae698392f4afc2232020357f249acfc55f70d4dd2f51ab451cdfb268"), looks := true }, kinds := [], alts := [], laidByText := true, laidKinds := [.data], laidTests := true, laidLooks := .later }
def SealBackUptoCardSaid : Prop := Claim7.holds Tryd.pinned (.plain (OpenSpec.upto sealBackSpec)) sealBackUptoCard

/-- THE SECOND FORM's CARD OF 'eddylaw04.SealSpoilt'. -/
def sealSpoiltUptoCard : Claim7 := { stood := { row := sealSpoiltUptoRow, standIns := [], harness := (true, "8d352e2fae698392f4afc2232020357f249acfc55f70d4dd2f51ab451cdfb268"), looks := true }, kinds := [], alts := [], laidByText := true, laidKinds := [.data], laidTests := true, laidLooks := .later }
def SealSpoiltUptoCardSaid : Prop := Claim7.holds Tryd.pinned (.plain (OpenSpec.upto sealSpoiltSpec)) sealSpoiltUptoCard

/-- THE SECOND FORM's CARD OF 'eddylaw04.SealFinds'. -/
def sealFindsUptoCard : Claim7 := { stood := { row := sealFindsUptoRow, standIns := [], harness := (true, "8d352e2fae698392f4afc2232020357f249acfc55f70d4dd2f51ab451cdfb268"), looks := true }, kinds := [], alts := [], laidByText := true, laidKinds := [.data], laidTests := true, laidLooks := .later }
def SealFindsUptoCardSaid : Prop := Claim7.holds Tryd.pinned (.plain (OpenSpec.upto sealFindsSpec)) sealFindsUptoCard

/-- THE SECOND FORM's CARD OF 'eddylaw04.SealAll'. -/
def sealAllUptoCard : Claim7 := { stood := { row := sealAllUptoRow, standIns := [], harness := (true, "8d352e2fae698392f4afc2232020357f249acfc55f70d4dd2f51ab451cdfb268"), looks := true }, kinds := [], alts := [], laidByText := true, laidKinds := [.data], laidTests := true, laidLooks := .later }
def SealAllUptoCardSaid : Prop := Claim7.holds Tryd.pinned (.plain (OpenSpec.upto sealAllSpec)) sealAllUptoCard

/-- THE SECOND FORM's CARD OF 'eddylaw03.CodeFields'. -/
def codeFieldsUptoCard : Claim7 := { stood := { row := codeFieldsUptoRow, standIns := [], harness := (true, "8d352e2fae698392f4afc2232020357f249acfc55f70d4dd2f51ab451cdfb268"), looks := true }, kinds := [], alts := [], laidByText := true, laidKinds := [.sentinel], laidTests := true, laidLooks := .later }
def CodeFieldsUptoCardSaid : Prop := Claim7.holds Tryd.pinned (.plain (OpenSpec.upto codeFieldsSpec)) codeFieldsUptoCard

/-- THE SECOND FORM's CARD OF 'eddylaw03.CodeBack'. -/
def codeBackUptoCard : Claim7 := { stood := { row := codeBackUptoRow, standIns := [], harness := (true, "8d352e2fae698392f4afc2232020357f249acfc55f70d4dd2f51ab451cdfb268"), looks := true }, kinds := [], alts := [], laidByText := true, laidKinds := [.sentinel], laidTests := true, laidLooks := .later }
def CodeBackUptoCardSaid : Prop := Claim7.holds Tryd.pinned (.plain (OpenSpec.upto codeBackSpec)) codeBackUptoCard

/-- THE SECOND FORM's CARD OF 'eddylaw03.CodeOneForm'. -/
def codeOneFormUptoCard : Claim7 := { stood := { row := codeOneFormUptoRow, standIns := [], harness := (true, "8d352e2fae698392f4afc2232020357f249acfc55f70d4dd2f51ab451cdfb268"), looks := true }, kinds := [], alts := [], laidByText := true, laidKinds := [.sentinel], laidTests := true, laidLooks := .later }
def CodeOneFormUptoCardSaid : Prop := Claim7.holds Tryd.pinned (.plain (OpenSpec.upto codeOneFormSpec)) codeOneFormUptoCard
end Rows
end Go.Proofs.YtmekpmboghmfpaaDoor
