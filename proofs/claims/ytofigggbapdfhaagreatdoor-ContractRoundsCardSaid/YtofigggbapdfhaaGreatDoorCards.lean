/-
  DERIVED. GIVEN WITH THE SEED: THE CARDS: each row of YtofigggbapdfhaaGreatDoorRows.lean that lists a variable, with what it lists TIED to the program's text (the seventh form; the later family's looks); each row that meets fmt, with fmt's text TOLD by the authors' own Lean function (tested against real Go, not proved from fmt's source: count such statements apart). THE CARD IS WHAT COUNTS. Prove the row's statement (the work); the ties are given (YtofigggbapdfhaaGreatDoorTie.lean); close each card by the builder's one call (the guide's Derived/Test/ToyasCard.lean, 'card_holds'). Laid BY PROGRAM, IN A SANDBOX (cutbox-door.mjs). By AI agents, Wed Nov 11 2026. No macro, syntax, notation, axiom, sorry.
-/
import Derived.Test.YtofigggbapdfhaaGreatDoorRows
import GoSem.ClaimSeven
namespace Go.Proofs.YtofigggbapdfhaaGreatDoor
namespace Rows

/-- THE TIED CARD OF 'milepostlaw18.ContractRounds'. -/
def contractRoundsCard : Claim7 := { stood := { row := contractRoundsRow, standIns := [], harness := (true, "b9773d6b36dd9dcf383bb6b796ac1de8dae46f26a81a88f35cb48688f6c536a4"), looks := false }, kinds := [], alts := [], laidByText := true, laidKinds := [.data, .data, .data], laidTests := true, laidLooks := .later }
def ContractRoundsCardSaid : Prop := Claim7.holds Tryz.pinned (.plain (OpenSpec.ofChange contractRoundsSpec)) contractRoundsCard

/-- THE SECOND FORM's CARD OF 'milepostlaw18.ContractRounds'. -/
def contractRoundsUptoCard : Claim7 := { stood := { row := contractRoundsUptoRow, standIns := [], harness := (true, "b9773d6b36dd9dcf383bb6b796ac1de8dae46f26a81a88f35cb48688f6c536a4"), looks := false }, kinds := [], alts := [], laidByText := true, laidKinds := [.data, .data, .data], laidTests := true, laidLooks := .later }
def ContractRoundsUptoCardSaid : Prop := Claim7.holds Tryz.pinned (.plain (OpenSpec.upto contractRoundsSpec)) contractRoundsUptoCard
end Rows
end Go.Proofs.YtofigggbapdfhaaGreatDoor
