/-
  DERIVED. GIVEN WITH THE SEED: THE CARDS: each row of YtgnpjenpehfjbaaDoorRows.lean that lists a variable, with what it lists TIED to the program's text (the seventh form; the later family's looks); each row that meets fmt, with fmt's text TOLD by the authors' own Lean function (tested against real Go, not proved from fmt's source: count such statements apart). THE CARD IS WHAT COUNTS. Prove the row's statement (the work); the ties are given (YtgnpjenpehfjbaaDoorTie.lean); close each card by the builder's one call (the guide's Derived/Test/ToyasCard.lean, 'card_holds'). Laid BY PROGRAM, IN A SANDBOX (cutbox-door.mjs). By AI agents, Wed Nov 11 2026. No macro, syntax, notation, axiom, sorry.
-/
import Derived.Test.YtgnpjenpehfjbaaDoorRows
import GoSem.ClaimSeven
namespace Go.Proofs.YtgnpjenpehfjbaaDoor
namespace Rows

/-- THE TIED CARD OF 'eddylaw05.WireFits'. -/
def wireFitsCard : Claim7 := { stood := { row := wireFitsRow, standIns := [], harness := (true, "4358325adc19686be07b8b44c0c7346e5f2909c7289b361f93c5c030bdb367dc"), looks := true }, kinds := [], alts := [], laidByText := true, laidKinds := [.data, .sentinel], laidTests := true, laidLooks := .later }
def WireFitsCardSaid : Prop := Claim7.holds Tryd.pinned (.plain (OpenSpec.ofChange wireFitsSpec)) wireFitsCard

/-- THE TIED CARD OF 'eddylaw05.WireItems'. -/
def wireItemsCard : Claim7 := { stood := { row := wireItemsRow, standIns := [], harness := (true, "4358325adc19686be07b8b44c0c7346e5f2909c7289b361f93c5c030bdb367dc"), looks := true }, kinds := [], alts := [], laidByText := true, laidKinds := [.data, .sentinel], laidTests := true, laidLooks := .later }
def WireItemsCardSaid : Prop := Claim7.holds Tryd.pinned (.plain (OpenSpec.ofChange wireItemsSpec)) wireItemsCard

/-- THE TIED CARD OF 'eddylaw05.WireDecodes'. -/
def wireDecodesCard : Claim7 := { stood := { row := wireDecodesRow, standIns := [], harness := (true, "4358325adc19686be07b8b44c0c7346e5f2909c7289b361f93c5c030bdb367dc"), looks := true }, kinds := [], alts := [], laidByText := true, laidKinds := [.data, .sentinel], laidTests := true, laidLooks := .later }
def WireDecodesCardSaid : Prop := Claim7.holds Tryd.pinned (.plain (OpenSpec.ofChange wireDecodesSpec)) wireDecodesCard

/-- THE TIED CARD OF 'eddylaw05.WireBodies'. -/
def wireBodiesCard : Claim7 := { stood := { row := wireBodiesRow, standIns := [], harness := (true, "4358325adc19686be07b8b44c0c7346e5f2909c7289b361f93c5c030bdb367dc"), looks := true }, kinds := [], alts := [], laidByText := true, laidKinds := [.data, .sentinel], laidTests := true, laidLooks := .later }
def WireBodiesCardSaid : Prop := Claim7.holds Tryd.pinned (.plain (OpenSpec.ofChange wireBodiesSpec)) wireBodiesCard

/-- THE TIED CARD OF 'eddylaw05.WireTwo'. -/
def wireTwoCard : Claim7 := { stood := { row := wireTwoRow, standIns := [], harness := (true, "4358325adc19686be07b8b44c0c7346e5f2909c7289b361f93c5c030bdb367dc"), looks := true }, kinds := [], alts := [], laidByText := true, laidKinds := [.data, .sentinel], laidTests := true, laidLooks := .later }
def WireTwoCardSaid : Prop := Claim7.holds Tryd.pinned (.plain (OpenSpec.ofChange wireTwoSpec)) wireTwoCard

/-- THE TIED CARD OF 'eddylaw05.WireAll'. -/
def wireAllCard : Claim7 := { stood := { row := wireAllRow, standIns := [], harness := (true, "4358325adc19686be07b8b44c0c7346e5f2909c7289b361f93c5c030bdb367dc"), looks := true }, kinds := [], alts := [], laidByText := true, laidKinds := [.data, .sentinel], laidTests := true, laidLooks := .later }
def WireAllCardSaid : Prop := Claim7.holds Tryd.pinned (.plain (OpenSpec.ofChange wireAllSpec)) wireAllCard

/-- THE TIED CARD OF 'eddylaw05.WireBack'. -/
def wireBackCard : Claim7 := { stood := { row := wireBackRow, standIns := [], harness := (true, "4358325adc19686be07b8b44c0c7346e5f2909c7289b361f93c5c030bdb367dc"), looks := true }, kinds := [], alts := [], laidByText := true, laidKinds := [.data, .sentinel], laidTests := true, laidLooks := .later }
def WireBackCardSaid : Prop := Claim7.holds Tryd.pinned (.plain (OpenSpec.ofChange wireBackSpec)) wireBackCard

/-- THE SECOND FORM's CARD OF 'eddylaw05.WireFits'. -/
def wireFitsUptoCard : Claim7 := { stood := { row := wireFitsUptoRow, standIns := [], harness := (true, "4358325adc19686be07b8b44c0c7346e5f2909c7289b361f93c5c030bdb367dc"), looks := true }, kinds := [], alts := [], laidByText := true, laidKinds := [.data, .sentinel], laidTests := true, laidLooks := .later }
def WireFitsUptoCardSaid : Prop := Claim7.holds Tryd.pinned (.plain (OpenSpec.upto wireFitsSpec)) wireFitsUptoCard

/-- THE SECOND FORM's CARD OF 'eddylaw05.WireItems'. -/
def wireItemsUptoCard : Claim7 := { stood := { row := wireItemsUptoRow, standIns := [], harness := (true, "4358325adc19686be07b8b44c0c7346e5f2909c7289b361f93c5c030bdb367dc"), looks := true }, kinds := [], alts := [], laidByText := true, laidKinds := [.data, .sentinel], laidTests := true, laidLooks := .later }
def WireItemsUptoCardSaid : Prop := Claim7.holds Tryd.pinned (.plain (OpenSpec.upto wireItemsSpec)) wireItemsUptoCard

/-- THE SECOND FORM's CARD OF 'eddylaw05.WireDecodes'. -/
def wireDecodesUptoCard : Claim7 := { stood := { row := wireDecodesUptoRow, standIns := [], harness := (true, "4358325adc19686be07b8b44c0c7346e5f2909c7289b361f93c5c030bdb367dc"), looks := true }, kinds := [], alts := [], laidByText := true, laidKinds := [.data, .sentinel], laidTests := true, laidLooks := .later }
def WireDecodesUptoCardSaid : Prop := Claim7.holds Tryd.pinned (.plain (OpenSpec.upto wireDecodesSpec)) wireDecodesUptoCard

/-- THE SECOND FORM's CARD OF 'eddylaw05.WireBodies'. -/
def wireBodiesUptoCard : Claim7 := { stood := { row := wireBodiesUptoRow, standIns := [], harness := (true, "4358325adc19686be07b8b44c0c7346e5f2909c7289b361f93c5c030bdb367dc"), looks := true }, kinds := [], alts := [], laidByText := true, laidKinds := [.data, .sentinel], laidTests := true, laidLooks := .later }
def WireBodiesUptoCardSaid : Prop := Claim7.holds Tryd.pinned (.plain (OpenSpec.upto wireBodiesSpec)) wireBodiesUptoCard

/-- THE SECOND FORM's CARD OF 'eddylaw05.WireTwo'. -/
def wireTwoUptoCard : Claim7 := { stood := { row := wireTwoUptoRow, standIns := [], harness := (true, "4358325adc19686be07b8b44c0c7346e5f2909c7289b361f93c5c030bdb367dc"), looks := true }, kinds := [], alts := [], laidByText := true, laidKinds := [.data, .sentinel], laidTests := true, laidLooks := .later }
def WireTwoUptoCardSaid : Prop := Claim7.holds Tryd.pinned (.plain (OpenSpec.upto wireTwoSpec)) wireTwoUptoCard

/-- THE SECOND FORM's CARD OF 'eddylaw05.WireAll'. -/
def wireAllUptoCard : Claim7 := { stood := { row := wireAllUptoRow, standIns := [], harness := (true, "4358325adc19686be07b8b44c0c7346e5f2909c7289b361f93c5c030bdb367dc"), looks := true }, kinds := [], alts := [], laidByText := true, laidKinds := [.data, .sentinel], laidTests := true, laidLooks := .later }
def WireAllUptoCardSaid : Prop := Claim7.holds Tryd.pinned (.plain (OpenSpec.upto wireAllSpec)) wireAllUptoCard

/-- THE SECOND FORM's CARD OF 'eddylaw05.WireBack'. -/
def wireBackUptoCard : Claim7 := { stood := { row := wireBackUptoRow, standIns := [], harness := (true, "4358325adc19686be07b8b44c0c7346e5f2909c7289b361f93c5c030bdb367dc"), looks := true }, kinds := [], alts := [], laidByText := true, laidKinds := [.data, .sentinel], laidTests := true, laidLooks := .later }
def WireBackUptoCardSaid : Prop := Claim7.holds Tryd.pinned (.plain (OpenSpec.upto wireBackSpec)) wireBackUptoCard
end Rows
end Go.Proofs.YtgnpjenpehfjbaaDoor
