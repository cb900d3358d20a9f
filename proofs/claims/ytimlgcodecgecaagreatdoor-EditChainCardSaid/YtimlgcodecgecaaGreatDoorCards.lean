/-
  DERIVED. GIVEN WITH THE SEED: THE CARDS: each row of YtimlgcodecgecaaGreatDoorRows.lean that lists a variable, with what it lists TIED to the program's text (the seventh form; the later family's looks); each row that meets fmt, with fmt's text TOLD by the authors' own Lean function (tested against real Go, not proved from fmt's source: count such statements apart). THE CARD IS WHAT COUNTS. Prove the row's statement (the work); the ties are given (YtimlgcodecgecaaGreatDoorTie.lean); close each card by the builder's one call (the guide's Derived/Test/ToyasCard.lean, 'card_holds'). Laid BY PROGRAM, IN A SANDBOX (cutbox-door.mjs). By AI agents, Wed Nov 11 2026. No macro, syntax, notation, axiom, sorry.
-/
import Derived.Test.YtimlgcodecgecaaGreatDoorRows
import GoSem.ClaimSeven
namespace Go.Proofs.YtimlgcodecgecaaGreatDoor
namespace Rows

/-- THE TIED CARD OF 'quirelaw15.EditChain'. -/
def editChainCard : Claim7 := { stood := { row := editChainRow, standIns := [], harness := (true, "9301a39b6bbb544fd51a7f9368aaaf89b4dfb162c90fc007f4bb6a3bbf8d8dbf"), looks := true }, kinds := [], alts := [], laidByText := true, laidKinds := [.data, .pinned], laidTests := true, laidLooks := .later }
def EditChainCardSaid : Prop := Claim7.holds Tryz.pinned (.plain (OpenSpec.ofChange editChainSpec)) editChainCard

/-- THE SECOND FORM's CARD OF 'quirelaw15.EditChain'. -/
def editChainUptoCard : Claim7 := { stood := { row := editChainUptoRow, standIns := [], harness := (true, "9301a39b6bbb544fd51a7f9368aaaf89b4dfb162c90fc007f4bb6a3bbf8d8dbf"), looks := true }, kinds := [], alts := [], laidByText := true, laidKinds := [.data, .pinned], laidTests := true, laidLooks := .later }
def EditChainUptoCardSaid : Prop := Claim7.holds Tryz.pinned (.plain (OpenSpec.upto editChainSpec)) editChainUptoCard
end Rows
end Go.Proofs.YtimlgcodecgecaaGreatDoor
