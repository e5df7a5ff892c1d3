/-
  DERIVED. GIVEN WITH THE SEED: THE CARDS: each row of YtghgnalbahneoaaDoorRows.lean that lists a variable, with what it lists TIED to the program's text (the seventh form; the later family's looks); each row that meets fmt, with fmt's text TOLD by the authors' own Lean function (tested against real Go, not proved from fmt's source: count such statements apart). THE CARD IS WHAT COUNTS. Prove the row's statement (the work); the ties are given (YtghgnalbahneoaaDoorTie.lean); close each card by the builder's one call (the guide's Derived/Test/ToyasCard.lean, 'card_holds'). Laid BY PROGRAM, IN A SANDBOX (cutbox-door.mjs). By AI agents, Wed Nov 11 2026. No macro, syntax, notation, axiom, sorry.
-/
import Derived.Test.YtghgnalbahneoaaDoorRows
import GoSem.ClaimSeven
namespace Go.Proofs.YtghgnalbahneoaaDoor
namespace Rows

/-- THE TIED CARD OF 'eddylaw31.HistTells'. -/
def histTellsCard : Claim7 := { stood := { row := histTellsRow, standIns := [], harness := (true, "bc2ef75fd243c4497e7c3d26785799664f3665f1857106334e50257c490b20e1"), looks := false }, kinds := [], alts := [], laidByText := true, laidKinds := [.data, .data, .data], laidTests := true, laidLooks := .later }
def HistTellsCardSaid : Prop := Claim7.holds Tryd.pinned (.plain (OpenSpec.ofChange histTellsSpec)) histTellsCard

/-- THE TIED CARD OF 'eddylaw31.HistRanks'. -/
def histRanksCard : Claim7 := { stood := { row := histRanksRow, standIns := [], harness := (true, "bc2ef75fd243c4497e7c3d26785799664f3665f1857106334e50257c490b20e1"), looks := false }, kinds := [], alts := [], laidByText := true, laidKinds := [.data, .data, .data], laidTests := true, laidLooks := .later }
def HistRanksCardSaid : Prop := Claim7.holds Tryd.pinned (.plain (OpenSpec.ofChange histRanksSpec)) histRanksCard

/-- THE TIED CARD OF 'eddylaw31.HistMakes'. -/
def histMakesCard : Claim7 := { stood := { row := histMakesRow, standIns := [], harness := (true, "bc2ef75fd243c4497e7c3d26785799664f3665f1857106334e50257c490b20e1"), looks := false }, kinds := [], alts := [], laidByText := true, laidKinds := [.data, .data, .data], laidTests := true, laidLooks := .later }
def HistMakesCardSaid : Prop := Claim7.holds Tryd.pinned (.plain (OpenSpec.ofChange histMakesSpec)) histMakesCard

/-- THE TIED CARD OF 'eddylaw31.HistCounts'. -/
def histCountsCard : Claim7 := { stood := { row := histCountsRow, standIns := [], harness := (true, "bc2ef75fd243c4497e7c3d26785799664f3665f1857106334e50257c490b20e1"), looks := false }, kinds := [], alts := [], laidByText := true, laidKinds := [.data, .data, .data], laidTests := true, laidLooks := .later }
def HistCountsCardSaid : Prop := Claim7.holds Tryd.pinned (.plain (OpenSpec.ofChange histCountsSpec)) histCountsCard

/-- THE TIED CARD OF 'eddylaw31.HistAdds'. -/
def histAddsCard : Claim7 := { stood := { row := histAddsRow, standIns := [], harness := (true, "bc2ef75fd243c4497e7c3d26785799664f3665f1857106334e50257c490b20e1"), looks := false }, kinds := [], alts := [], laidByText := true, laidKinds := [.data, .data, .data], laidTests := true, laidLooks := .later }
def HistAddsCardSaid : Prop := Claim7.holds Tryd.pinned (.plain (OpenSpec.ofChange histAddsSpec)) histAddsCard

/-- THE SECOND FORM's CARD OF 'eddylaw31.HistTells'. -/
def histTellsUptoCard : Claim7 := { stood := { row := histTellsUptoRow, standIns := [], harness := (true, "bc2ef75fd243c4497e7c3d26785799664f3665f1857106334e50257c490b20e1"), looks := false }, kinds := [], alts := [], laidByText := true, laidKinds := [.data, .data, .data], laidTests := true, laidLooks := .later }
def HistTellsUptoCardSaid : Prop := Claim7.holds Tryd.pinned (.plain (OpenSpec.upto histTellsSpec)) histTellsUptoCard

/-- THE SECOND FORM's CARD OF 'eddylaw31.HistRanks'. -/
def histRanksUptoCard : Claim7 := { stood := { row := histRanksUptoRow, standIns := [], harness := (true, "bc2ef75fd243c4497e7c3d26785799664f3665f1857106334e50257c490b20e1"), looks := false }, kinds := [], alts := [], laidByText := true, laidKinds := [.data, .data, .data], laidTests := true, laidLooks := .later }
def HistRanksUptoCardSaid : Prop := Claim7.holds Tryd.pinned (.plain (OpenSpec.upto histRanksSpec)) histRanksUptoCard

/-- THE SECOND FORM's CARD OF 'eddylaw31.HistMakes'. -/
def histMakesUptoCard : Claim7 := { stood := { row := histMakesUptoRow, standIns := [], harness := (true, "bc2ef75fd243c4497e7c3d26785799664f3665f1857106334e50257c490b20e1"), looks := false }, kinds := [], alts := [], laidByText := true, laidKinds := [.data, .data, .data], laidTests := true, laidLooks := .later }
def HistMakesUptoCardSaid : Prop := Claim7.holds Tryd.pinned (.plain (OpenSpec.upto histMakesSpec)) histMakesUptoCard

/-- THE SECOND FORM's CARD OF 'eddylaw31.HistCounts'. -/
def histCountsUptoCard : Claim7 := { stood := { row := histCountsUptoRow, standIns := [], harness := (true, "bc2ef75fd243c4497e7c3d26785799664f3665f1857106334e50257c490b20e1"), looks := false }, kinds := [], alts := [], laidByText := true, laidKinds := [.data, .data, .data], laidTests := true, laidLooks := .later }
def HistCountsUptoCardSaid : Prop := Claim7.holds Tryd.pinned (.plain (OpenSpec.upto histCountsSpec)) histCountsUptoCard

/-- THE SECOND FORM's CARD OF 'eddylaw31.HistAdds'. -/
def histAddsUptoCard : Claim7 := { stood := { row := histAddsUptoRow, standIns := [], harness := (true, "bc2ef75fd243c4497e7c3d26785799664f3665f1857106334e50257c490b20e1"), looks := false }, kinds := [], alts := [], laidByText := true, laidKinds := [.data, .data, .data], laidTests := true, laidLooks := .later }
def HistAddsUptoCardSaid : Prop := Claim7.holds Tryd.pinned (.plain (OpenSpec.upto histAddsSpec)) histAddsUptoCard
end Rows
end Go.Proofs.YtghgnalbahneoaaDoor
