/-
  DERIVED. GIVEN WITH THE SEED: THE CARDS: each row of YtckedklopgnloaaDoorRows.lean that lists a variable, with what it lists TIED to the program's text (the seventh form; the later family's looks); each row that meets fmt, with fmt's text TOLD by the authors' own Lean function (tested against real Go, not proved from fmt's source: count such statements apart). THE CARD IS WHAT COUNTS. Prove the row's statement (the work); the ties are given (YtckedklopgnloaaDoorTie.lean); close each card by the builder's one call (the guide's Derived/Test/ToyasCard.lean, 'card_holds'). Laid BY PROGRAM, IN A SANDBOX (cutbox-door.mjs). By AI agents, Wed Nov 11 2026. No macro, syntax, notation, axiom, sorry.
-/
import Derived.Test.YtckedklopgnloaaDoorRows
import GoSem.ClaimSeven
namespace Go.Proofs.YtckedklopgnloaaDoor
namespace Rows

/-- THE TIED CARD OF 'eddylaw02.FracMakes'. -/
def fracMakesCard : Claim7 := { stood := { row := fracMakesRow, standIns := [], harness := (true, "f721a78e3732a7a6fb42a823915ee8f1be9f42524fd156397ff8839d70e71711"), looks := true }, kinds := [], alts := [], laidByText := true, laidKinds := [.data, .data, .data], laidTests := true, laidLooks := .later }
def FracMakesCardSaid : Prop := Claim7.holds Tryd.pinned (.plain (OpenSpec.ofChange fracMakesSpec)) fracMakesCard

/-- THE TIED CARD OF 'eddylaw02.FracNear'. -/
def fracNearCard : Claim7 := { stood := { row := fracNearRow, standIns := [], harness := (true, "f721a78e3732a7a6fb42a823915ee8f1be9f42524fd156397ff8839d70e71711"), looks := true }, kinds := [], alts := [], laidByText := true, laidKinds := [.data, .data, .data], laidTests := true, laidLooks := .later }
def FracNearCardSaid : Prop := Claim7.holds Tryd.pinned (.plain (OpenSpec.ofChange fracNearSpec)) fracNearCard

/-- THE TIED CARD OF 'eddylaw02.FracSimplest'. -/
def fracSimplestCard : Claim7 := { stood := { row := fracSimplestRow, standIns := [], harness := (true, "f721a78e3732a7a6fb42a823915ee8f1be9f42524fd156397ff8839d70e71711"), looks := true }, kinds := [], alts := [], laidByText := true, laidKinds := [.data, .data, .data], laidTests := true, laidLooks := .later }
def FracSimplestCardSaid : Prop := Claim7.holds Tryd.pinned (.plain (OpenSpec.ofChange fracSimplestSpec)) fracSimplestCard

/-- THE TIED CARD OF 'eddylaw02.FracOrder'. -/
def fracOrderCard : Claim7 := { stood := { row := fracOrderRow, standIns := [], harness := (true, "f721a78e3732a7a6fb42a823915ee8f1be9f42524fd156397ff8839d70e71711"), looks := true }, kinds := [], alts := [], laidByText := true, laidKinds := [.data, .data, .data], laidTests := true, laidLooks := .later }
def FracOrderCardSaid : Prop := Claim7.holds Tryd.pinned (.plain (OpenSpec.ofChange fracOrderSpec)) fracOrderCard

/-- THE TIED CARD OF 'eddylaw02.FracWhole'. -/
def fracWholeCard : Claim7 := { stood := { row := fracWholeRow, standIns := [], harness := (true, "f721a78e3732a7a6fb42a823915ee8f1be9f42524fd156397ff8839d70e71711"), looks := true }, kinds := [], alts := [], laidByText := true, laidKinds := [.data, .data, .data], laidTests := true, laidLooks := .later }
def FracWholeCardSaid : Prop := Claim7.holds Tryd.pinned (.plain (OpenSpec.ofChange fracWholeSpec)) fracWholeCard

/-- THE TIED CARD OF 'eddylaw02.FracReckons'. -/
def fracReckonsCard : Claim7 := { stood := { row := fracReckonsRow, standIns := [], harness := (true, "f721a78e3732a7a6fb42a823915ee8f1be9f42524fd156397ff8839d70e71711"), looks := true }, kinds := [], alts := [], laidByText := true, laidKinds := [.data, .data, .data], laidTests := true, laidLooks := .later }
def FracReckonsCardSaid : Prop := Claim7.holds Tryd.pinned (.plain (OpenSpec.ofChange fracReckonsSpec)) fracReckonsCard

/-- THE TIED CARD OF 'eddylaw02.FracField'. -/
def fracFieldCard : Claim7 := { stood := { row := fracFieldRow, standIns := [], harness := (true, "f721a78e3732a7a6fb42a823915ee8f1be9f42524fd156397ff8839d70e71711"), looks := true }, kinds := [], alts := [], laidByText := true, laidKinds := [.data, .data, .data], laidTests := true, laidLooks := .later }
def FracFieldCardSaid : Prop := Claim7.holds Tryd.pinned (.plain (OpenSpec.ofChange fracFieldSpec)) fracFieldCard

/-- THE TIED CARD OF 'eddylaw02.FracTerms'. -/
def fracTermsCard : Claim7 := { stood := { row := fracTermsRow, standIns := [], harness := (true, "f721a78e3732a7a6fb42a823915ee8f1be9f42524fd156397ff8839d70e71711"), looks := true }, kinds := [], alts := [], laidByText := true, laidKinds := [.data, .data, .data], laidTests := true, laidLooks := .later }
def FracTermsCardSaid : Prop := Claim7.holds Tryd.pinned (.plain (OpenSpec.ofChange fracTermsSpec)) fracTermsCard

/-- THE TIED CARD OF 'eddylaw02.FracTexts'. -/
def fracTextsCard : Claim7 := { stood := { row := fracTextsRow, standIns := [], harness := (true, "f721a78e3732a7a6fb42a823915ee8f1be9f42524fd156397ff8839d70e71711"), looks := true }, kinds := [], alts := [], laidByText := true, laidKinds := [.data, .data, .data, .sentinel, .sentinel], laidTests := true, laidLooks := .later }
def FracTextsCardSaid : Prop := Claim7.holds Tryd.pinned (.plain (OpenSpec.ofChange fracTextsSpec)) fracTextsCard

/-- THE SECOND FORM's CARD OF 'eddylaw02.FracMakes'. -/
def fracMakesUptoCard : Claim7 := { stood := { row := fracMakesUptoRow, standIns := [], harness := (true, "f721a78e3732a7a6fb42a823915ee8f1be9f42524fd156397ff8839d70e71711"), looks := true }, kinds := [], alts := [], laidByText := true, laidKinds := [.data, .data, .data], laidTests := true, laidLooks := .later }
def FracMakesUptoCardSaid : Prop := Claim7.holds Tryd.pinned (.plain (OpenSpec.upto fracMakesSpec)) fracMakesUptoCard

/-- THE SECOND FORM's CARD OF 'eddylaw02.FracNear'. -/
def fracNearUptoCard : Claim7 := { stood := { row := fracNearUptoRow, standIns := [], harness := (true, "f721a78e3732a7a6fb42a823915ee8f1be9f42524fd156397ff8839d70e71711"), looks := true }, kinds := [], alts := [], laidByText := true, laidKinds := [.data, .data, .data], laidTests := true, laidLooks := .later }
def FracNearUptoCardSaid : Prop := Claim7.holds Tryd.pinned (.plain (OpenSpec.upto fracNearSpec)) fracNearUptoCard

/-- THE SECOND FORM's CARD OF 'eddylaw02.FracSimplest'. -/
def fracSimplestUptoCard : Claim7 := { stood := { row := fracSimplestUptoRow, standIns := [], harness := (true, "f721a78e3732a7a6fb42a823915ee8f1be9f42524fd156397ff8839d70e71711"), looks := true }, kinds := [], alts := [], laidByText := true, laidKinds := [.data, .data, .data], laidTests := true, laidLooks := .later }
def FracSimplestUptoCardSaid : Prop := Claim7.holds Tryd.pinned (.plain (OpenSpec.upto fracSimplestSpec)) fracSimplestUptoCard

/-- THE SECOND FORM's CARD OF 'eddylaw02.FracOrder'. -/
def fracOrderUptoCard : Claim7 := { stood := { row := fracOrderUptoRow, standIns := [], harness := (true, "f721a78e3732a7a6fb42a823915ee8f1be9f42524fd156397ff8839d70e71711"), looks := true }, kinds := [], alts := [], laidByText := true, laidKinds := [.data, .data, .data], laidTests := true, laidLooks := .later }
def FracOrderUptoCardSaid : Prop := Claim7.holds Tryd.pinned (.plain (OpenSpec.upto fracOrderSpec)) fracOrderUptoCard

/-- THE SECOND FORM's CARD OF 'eddylaw02.FracWhole'. -/
def fracWholeUptoCard : Claim7 := { stood := { row := fracWholeUptoRow, standIns := [], harness := (true, "f721a78e3732a7a6fb42a823915ee8f1be9f42524fd156397ff8839d70e71711"), looks := true }, kinds := [], alts := [], laidByText := true, laidKinds := [.data, .data, .data], laidTests := true, laidLooks := .later }
def FracWholeUptoCardSaid : Prop := Claim7.holds Tryd.pinned (.plain (OpenSpec.upto fracWholeSpec)) fracWholeUptoCard

/-- THE SECOND FORM's CARD OF 'eddylaw02.FracReckons'. -/
def fracReckonsUptoCard : Claim7 := { stood := { row := fracReckonsUptoRow, standIns := [], harness := (true, "f721a78e3732a7a6fb42a823915ee8f1be9f42524fd156397ff8839d70e71711"), looks := true }, kinds := [], alts := [], laidByText := true, laidKinds := [.data, .data, .data], laidTests := true, laidLooks := .later }
def FracReckonsUptoCardSaid : Prop := Claim7.holds Tryd.pinned (.plain (OpenSpec.upto fracReckonsSpec)) fracReckonsUptoCard

/-- THE SECOND FORM's CARD OF 'eddylaw02.FracField'. -/
def fracFieldUptoCard : Claim7 := { stood := { row := fracFieldUptoRow, standIns := [], harness := (true, "f721a78e3732a7a6fb42a823915ee8f1be9f42524fd156397ff8839d70e71711"), looks := true }, kinds := [], alts := [], laidByText := true, laidKinds := [.data, .data, .data], laidTests := true, laidLooks := .later }
def FracFieldUptoCardSaid : Prop := Claim7.holds Tryd.pinned (.plain (OpenSpec.upto fracFieldSpec)) fracFieldUptoCard

/-- THE SECOND FORM's CARD OF 'eddylaw02.FracTerms'. -/
def fracTermsUptoCard : Claim7 := { stood := { row := fracTermsUptoRow, standIns := [], harness := (true, "f721a78e3732a7a6fb42a823915ee8f1be9f42524fd156397ff8839d70e71711"), looks := true }, kinds := [], alts := [], laidByText := true, laidKinds := [.data, .data, .data], laidTests := true, laidLooks := .later }
def FracTermsUptoCardSaid : Prop := Claim7.holds Tryd.pinned (.plain (OpenSpec.upto fracTermsSpec)) fracTermsUptoCard

/-- THE SECOND FORM's CARD OF 'eddylaw02.FracTexts'. -/
def fracTextsUptoCard : Claim7 := { stood := { row := fracTextsUptoRow, standIns := [], harness := (true, "f721a78e3732a7a6fb42a823915ee8f1be9f42524fd156397ff8839d70e71711"), looks := true }, kinds := [], alts := [], laidByText := true, laidKinds := [.data, .data, .data, .sentinel, .sentinel], laidTests := true, laidLooks := .later }
def FracTextsUptoCardSaid : Prop := Claim7.holds Tryd.pinned (.plain (OpenSpec.upto fracTextsSpec)) fracTextsUptoCard
end Rows
end Go.Proofs.YtckedklopgnloaaDoor
