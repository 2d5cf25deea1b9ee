/-
  DERIVED. GIVEN WITH THE SEED: THE CARDS: each row of YthkkgdpomhhjjaaGreatDoorRows.lean that lists a variable, with what it lists TIED to the program's text (the seventh form; the later family's looks); each row that meets fmt, with fmt's text TOLD by the authors' own Lean function (tested against real Go, not proved from fmt's source: count such statements apart). THE CARD IS WHAT COUNTS. Prove the row's statement (the work); the ties are given (YthkkgdpomhhjjaaGreatDoorTie.lean); close each card by the builder's one call (the guide's Derived/Test/ToyasCard.lean, 'card_holds'). Laid BY PROGRAM, IN A SANDBOX (cutbox-door.mjs). By AI agents, Wed Nov 11 2026. No macro, syntax, notation, axiom, sorry.
-/
import Derived.Test.YthkkgdpomhhjjaaGreatDoorRows
import GoSem.ClaimSeven
namespace Go.Proofs.YthkkgdpomhhjjaaGreatDoor
namespace Rows

/-- THE TIED CARD OF 'milepostlaw13.StoreMakes'. -/
def storeMakesCard : Claim7 := { stood := { row := storeMakesRow, standIns := [], harness := (true, "9693635c39911fa6cad5a5542f35d0679136f68ddd65d298059ae6664dd2b010"), looks := false }, kinds := [], alts := [], laidByText := true, laidKinds := [.data, .data, .data], laidTests := true, laidLooks := .later }
def StoreMakesCardSaid : Prop := Claim7.holds Tryz.pinned (.plain (OpenSpec.ofChange storeMakesSpec)) storeMakesCard

/-- THE TIED CARD OF 'milepostlaw18.ContractKeeps'. -/
def contractKeepsCard : Claim7 := { stood := { row := contractKeepsRow, standIns := [], harness := (true, "9693635c39911fa6cad5a5542f35d0679136f68ddd65d298059ae6664dd2b010"), looks := false }, kinds := [], alts := [], laidByText := true, laidKinds := [.data, .data, .data], laidTests := true, laidLooks := .later }
def ContractKeepsCardSaid : Prop := Claim7.holds Tryz.pinned (.plain (OpenSpec.ofChange contractKeepsSpec)) contractKeepsCard

/-- THE TIED CARD OF 'milepostlaw18.ContractPicks'. -/
def contractPicksCard : Claim7 := { stood := { row := contractPicksRow, standIns := [], harness := (true, "9693635c39911fa6cad5a5542f35d0679136f68ddd65d298059ae6664dd2b010"), looks := false }, kinds := [], alts := [], laidByText := true, laidKinds := [.data, .data, .data], laidTests := true, laidLooks := .later }
def ContractPicksCardSaid : Prop := Claim7.holds Tryz.pinned (.plain (OpenSpec.ofChange contractPicksSpec)) contractPicksCard

/-- THE TIED CARD OF 'milepostlaw18.ContractCuts'. -/
def contractCutsCard : Claim7 := { stood := { row := contractCutsRow, standIns := [], harness := (true, "9693635c39911fa6cad5a5542f35d0679136f68ddd65d298059ae6664dd2b010"), looks := false }, kinds := [], alts := [], laidByText := true, laidKinds := [.data, .data, .data], laidTests := true, laidLooks := .later }
def ContractCutsCardSaid : Prop := Claim7.holds Tryz.pinned (.plain (OpenSpec.ofChange contractCutsSpec)) contractCutsCard

/-- THE TIED CARD OF 'milepostlaw18.ContractRanks'. -/
def contractRanksCard : Claim7 := { stood := { row := contractRanksRow, standIns := [], harness := (true, "9693635c39911fa6cad5a5542f35d0679136f68ddd65d298059ae6664dd2b010"), looks := false }, kinds := [], alts := [], laidByText := true, laidKinds := [.data, .data, .data], laidTests := true, laidLooks := .later }
def ContractRanksCardSaid : Prop := Claim7.holds Tryz.pinned (.plain (OpenSpec.ofChange contractRanksSpec)) contractRanksCard

/-- THE TIED CARD OF 'milepostlaw18.ContractRefuses'. -/
def contractRefusesCard : Claim7 := { stood := { row := contractRefusesRow, standIns := [], harness := (true, "9693635c39911fa6cad5a5542f35d0679136f68ddd65d298059ae6664dd2b010"), looks := false }, kinds := [], alts := [], laidByText := true, laidKinds := [.data, .data, .data], laidTests := true, laidLooks := .later }
def ContractRefusesCardSaid : Prop := Claim7.holds Tryz.pinned (.plain (OpenSpec.ofChange contractRefusesSpec)) contractRefusesCard

/-- THE TIED CARD OF 'milepostlaw18.ContractRounds'. -/
def contractRoundsCard : Claim7 := { stood := { row := contractRoundsRow, standIns := [], harness := (true, "9693635c39911fa6cad5a5542f35d0679136f68ddd65d298059ae6664dd2b010"), looks := false }, kinds := [], alts := [], laidByText := true, laidKinds := [.data, .data, .data], laidTests := true, laidLooks := .later }
def ContractRoundsCardSaid : Prop := Claim7.holds Tryz.pinned (.plain (OpenSpec.ofChange contractRoundsSpec)) contractRoundsCard

/-- THE SECOND FORM's CARD OF 'milepostlaw13.StoreMakes'. -/
def storeMakesUptoCard : Claim7 := { stood := { row := storeMakesUptoRow, standIns := [], harness := (true, "9693635c39911fa6cad5a5542f35d0679136f68ddd65d298059ae6664dd2b010"), looks := false }, kinds := [], alts := [], laidByText := true, laidKinds := [.data, .data, .data], laidTests := true, laidLooks := .later }
def StoreMakesUptoCardSaid : Prop := Claim7.holds Tryz.pinned (.plain (OpenSpec.upto storeMakesSpec)) storeMakesUptoCard

/-- THE SECOND FORM's CARD OF 'milepostlaw18.ContractKeeps'. -/
def contractKeepsUptoCard : Claim7 := { stood := { row := contractKeepsUptoRow, standIns := [], harness := (true, "9693635c39911fa6cad5a5542f35d0679136f68ddd65d298059ae6664dd2b010"), looks := false }, kinds := [], alts := [], laidByText := true, laidKinds := [.data, .data, .data], laidTests := true, laidLooks := .later }
def ContractKeepsUptoCardSaid : Prop := Claim7.holds Tryz.pinned (.plain (OpenSpec.upto contractKeepsSpec)) contractKeepsUptoCard

/-- THE SECOND FORM's CARD OF 'milepostlaw18.ContractPicks'. -/
def contractPicksUptoCard : Claim7 := { stood := { row := contractPicksUptoRow, standIns := [], harness := (true, "9693635c39911fa6cad5a5542f35d0679136f68ddd65d298059ae6664dd2b010"), looks := false }, kinds := [], alts := [], laidByText := true, laidKinds := [.data, .data, .data], laidTests := true, laidLooks := .later }
def ContractPicksUptoCardSaid : Prop := Claim7.holds Tryz.pinned (.plain (OpenSpec.upto contractPicksSpec)) contractPicksUptoCard

/-- THE SECOND FORM's CARD OF 'milepostlaw18.ContractCuts'. -/
def contractCutsUptoCard : Claim7 := { stood := { row := contractCutsUptoRow, standIns := [], harness := (true, "9693635c39911fa6cad5a5542f35d0679136f68ddd65d298059ae6664dd2b010"), looks := false }, kinds := [], alts := [], laidByText := true, laidKinds := [.data, .data, .data], laidTests := true, laidLooks := .later }
def ContractCutsUptoCardSaid : Prop := Claim7.holds Tryz.pinned (.plain (OpenSpec.upto contractCutsSpec)) contractCutsUptoCard

/-- THE SECOND FORM's CARD OF 'milepostlaw18.ContractRanks'. -/
def contractRanksUptoCard : Claim7 := { stood := { row := contractRanksUptoRow, standIns := [], harness := (true, "9693635c39911fa6cad5a5542f35d0679136f68ddd65d298059ae6664dd2b010"), looks := false }, kinds := [], alts := [], laidByText := true, laidKinds := [.data, .data, .data], laidTests := true, laidLooks := .later }
def ContractRanksUptoCardSaid : Prop := Claim7.holds Tryz.pinned (.plain (OpenSpec.upto contractRanksSpec)) contractRanksUptoCard

/-- THE SECOND FORM's CARD OF 'milepostlaw18.ContractRefuses'. -/
def contractRefusesUptoCard : Claim7 := { stood := { row := contractRefusesUptoRow, standIns := [], harness := (true, "9693635c39911fa6cad5a5542f35d0679136f68ddd65d298059ae6664dd2b010"), looks := false }, kinds := [], alts := [], laidByText := true, laidKinds := [.data, .data, .data], laidTests := true, laidLooks := .later }
def ContractRefusesUptoCardSaid : Prop := Claim7.holds Tryz.pinned (.plain (OpenSpec.upto contractRefusesSpec)) contractRefusesUptoCard

/-- THE SECOND FORM's CARD OF 'milepostlaw18.ContractRounds'. -/
def contractRoundsUptoCard : Claim7 := { stood := { row := contractRoundsUptoRow, standIns := [], harness := (true, "9693635c39911fa6cad5a5542f35d0679136f68ddd65d298059ae6664dd2b010"), looks := false }, kinds := [], alts := [], laidByText := true, laidKinds := [.data, .data, .data], laidTests := true, laidLooks := .later }
def ContractRoundsUptoCardSaid : Prop := Claim7.holds Tryz.pinned (.plain (OpenSpec.upto contractRoundsSpec)) contractRoundsUptoCard
end Rows
end Go.Proofs.YthkkgdpomhhjjaaGreatDoor
