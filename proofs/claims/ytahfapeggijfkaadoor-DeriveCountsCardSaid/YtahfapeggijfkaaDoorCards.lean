/-
  DERIVED. GIVEN WITH THE SEED: THE CARDS: each row of YtahfapeggijfkaaDoorRows.lean that lists a variable, with what it lists TIED to the program's text (the seventh form; the later family's looks); each row that meets fmt, with fmt's text TOLD by the authors' own Lean function (tested against real Go, not proved from fmt's source: count such statements apart). THE CARD IS WHAT COUNTS. Prove the row's statement (the work); the ties are given (YtahfapeggijfkaaDoorTie.lean); close each card by the builder's one call (the guide's Derived/Test/ToyasCard.lean, 'card_holds'). Laid BY PROGRAM, IN A SANDBOX (cutbox-door.mjs). By AI agents, Wed Nov 11 2026. No macro, syntax, notation, axiom, sorry.
-/
import Derived.Test.YtahfapeggijfkaaDoorRows
import GoSem.ClaimSeven
namespace Go.Proofs.YtahfapeggijfkaaDoor
namespace Rows

/-- THE TIED CARD OF 'eddylaw19.DeriveTells'. -/
def deriveTellsCard : Claim7 := { stood := { row := deriveTellsRow, standIns := [], harness := (true, "c48a4106593820e12dd9e70b3d23218dac0404d2558b3690224d0e00960fe376"), looks := false }, kinds := [], alts := [], laidByText := true, laidKinds := [.data, .data, .data], laidTests := true, laidLooks := .later }
def DeriveTellsCardSaid : Prop := Claim7.holds Tryd.pinned (.plain (OpenSpec.ofChange deriveTellsSpec)) deriveTellsCard

/-- THE TIED CARD OF 'eddylaw19.DeriveCounts'. -/
def deriveCountsCard : Claim7 := { stood := { row := deriveCountsRow, standIns := [], harness := (true, "c48a4106593820e12dd9e70b3d23218dac0404d2558b3690224d0e00960fe376"), looks := false }, kinds := [], alts := [], laidByText := true, laidKinds := [.data, .data, .data], laidTests := true, laidLooks := .later }
def DeriveCountsCardSaid : Prop := Claim7.holds Tryd.pinned (.plain (OpenSpec.ofChange deriveCountsSpec)) deriveCountsCard

/-- THE TIED CARD OF 'eddylaw19.DeriveRises'. -/
def deriveRisesCard : Claim7 := { stood := { row := deriveRisesRow, standIns := [], harness := (true, "c48a4106593820e12dd9e70b3d23218dac0404d2558b3690224d0e00960fe376"), looks := false }, kinds := [], alts := [], laidByText := true, laidKinds := [.data, .data, .data], laidTests := true, laidLooks := .later }
def DeriveRisesCardSaid : Prop := Claim7.holds Tryd.pinned (.plain (OpenSpec.ofChange deriveRisesSpec)) deriveRisesCard

/-- THE TIED CARD OF 'eddylaw19.DeriveTotals'. -/
def deriveTotalsCard : Claim7 := { stood := { row := deriveTotalsRow, standIns := [], harness := (true, "c48a4106593820e12dd9e70b3d23218dac0404d2558b3690224d0e00960fe376"), looks := false }, kinds := [], alts := [], laidByText := true, laidKinds := [.data, .data, .data], laidTests := true, laidLooks := .later }
def DeriveTotalsCardSaid : Prop := Claim7.holds Tryd.pinned (.plain (OpenSpec.ofChange deriveTotalsSpec)) deriveTotalsCard

/-- THE TIED CARD OF 'eddylaw19.DeriveMeans'. -/
def deriveMeansCard : Claim7 := { stood := { row := deriveMeansRow, standIns := [], harness := (true, "c48a4106593820e12dd9e70b3d23218dac0404d2558b3690224d0e00960fe376"), looks := false }, kinds := [], alts := [], laidByText := true, laidKinds := [.data, .data, .data], laidTests := true, laidLooks := .later }
def DeriveMeansCardSaid : Prop := Claim7.holds Tryd.pinned (.plain (OpenSpec.ofChange deriveMeansSpec)) deriveMeansCard

/-- THE SECOND FORM's CARD OF 'eddylaw19.DeriveTells'. -/
def deriveTellsUptoCard : Claim7 := { stood := { row := deriveTellsUptoRow, standIns := [], harness := (true, "c48a4106593820e12dd9e70b3d23218dac0404d2558b3690224d0e00960fe376"), looks := false }, kinds := [], alts := [], laidByText := true, laidKinds := [.data, .data, .data], laidTests := true, laidLooks := .later }
def DeriveTellsUptoCardSaid : Prop := Claim7.holds Tryd.pinned (.plain (OpenSpec.upto deriveTellsSpec)) deriveTellsUptoCard

/-- THE SECOND FORM's CARD OF 'eddylaw19.DeriveCounts'. -/
def deriveCountsUptoCard : Claim7 := { stood := { row := deriveCountsUptoRow, standIns := [], harness := (true, "c48a4106593820e12dd9e70b3d23218dac0404d2558b3690224d0e00960fe376"), looks := false }, kinds := [], alts := [], laidByText := true, laidKinds := [.data, .data, .data], laidTests := true, laidLooks := .later }
def DeriveCountsUptoCardSaid : Prop := Claim7.holds Tryd.pinned (.plain (OpenSpec.upto deriveCountsSpec)) deriveCountsUptoCard

/-- THE SECOND FORM's CARD OF 'eddylaw19.DeriveRises'. -/
def deriveRisesUptoCard : Claim7 := { stood := { row := deriveRisesUptoRow, standIns := [], harness := (true, "c48a4106593820e12dd9e70b3d23218dac0404d2558b3690224d0e00960fe376"), looks := false }, kinds := [], alts := [], laidByText := true, laidKinds := [.data, .data, .data], laidTests := true, laidLooks := .later }
def DeriveRisesUptoCardSaid : Prop := Claim7.holds Tryd.pinned (.plain (OpenSpec.upto deriveRisesSpec)) deriveRisesUptoCard

/-- THE SECOND FORM's CARD OF 'eddylaw19.DeriveTotals'. -/
def deriveTotalsUptoCard : Claim7 := { stood := { row := deriveTotalsUptoRow, standIns := [], harness := (true, "c48a4106593820e12dd9e70b3d23218dac0404d2558b3690224d0e00960fe376"), looks := false }, kinds := [], alts := [], laidByText := true, laidKinds := [.data, .data, .data], laidTests := true, laidLooks := .later }
def DeriveTotalsUptoCardSaid : Prop := Claim7.holds Tryd.pinned (.plain (OpenSpec.upto deriveTotalsSpec)) deriveTotalsUptoCard

/-- THE SECOND FORM's CARD OF 'eddylaw19.DeriveMeans'. -/
def deriveMeansUptoCard : Claim7 := { stood := { row := deriveMeansUptoRow, standIns := [], harness := (true, "c48a4106593820e12dd9e70b3d23218dac0404d2558b3690224d0e00960fe376"), looks := false }, kinds := [], alts := [], laidByText := true, laidKinds := [.data, .data, .data], laidTests := true, laidLooks := .later }
def DeriveMeansUptoCardSaid : Prop := Claim7.holds Tryd.pinned (.plain (OpenSpec.upto deriveMeansSpec)) deriveMeansUptoCard
end Rows
end Go.Proofs.YtahfapeggijfkaaDoor
