/-
  DERIVED. GIVEN WITH THE SEED: THE CARDS: each row of YthhbiliimdpgmaaGreatDoorRows.lean that lists a variable, with what it lists TIED to the program's text (the seventh form; the later family's looks); each row that meets fmt, with fmt's text TOLD by the authors' own Lean function (tested against real Go, not proved from fmt's source: count such statements apart). THE CARD IS WHAT COUNTS. Prove the row's statement (the work); the ties are given (YthhbiliimdpgmaaGreatDoorTie.lean); close each card by the builder's one call (the guide's Derived/Test/ToyasCard.lean, 'card_holds'). Laid BY PROGRAM, IN A SANDBOX (cutbox-door.mjs). By AI agents, Wed Nov 11 2026. No macro, syntax, notation, axiom, sorry.
-/
import Derived.Test.YthhbiliimdpgmaaGreatDoorRows
import GoSem.ClaimSeven
namespace Go.Proofs.YthhbiliimdpgmaaGreatDoor
namespace Rows

/-- THE TIED CARD OF 'quirelaw15.EditEnds'. -/
def editEndsCard : Claim7 := { stood := { row := editEndsRow, standIns := [], harness := (true, "d1d6304fe57cf68f4d43d1eb1880e2606bf5062628af4f7d86a0769a3923f312"), looks := true }, kinds := [], alts := [], laidByText := true, laidKinds := [.data, .pinned], laidTests := true, laidLooks := .later }
def EditEndsCardSaid : Prop := Claim7.holds Tryz.pinned (.plain (OpenSpec.ofChange editEndsSpec)) editEndsCard

/-- THE SECOND FORM's CARD OF 'quirelaw15.EditEnds'. -/
def editEndsUptoCard : Claim7 := { stood := { row := editEndsUptoRow, standIns := [], harness := (true, "d1d6304fe57cf68f4d43d1eb1880e2606bf5062628af4f7d86a0769a3923f312"), looks := true }, kinds := [], alts := [], laidByText := true, laidKinds := [.data, .pinned], laidTests := true, laidLooks := .later }
def EditEndsUptoCardSaid : Prop := Claim7.holds Tryz.pinned (.plain (OpenSpec.upto editEndsSpec)) editEndsUptoCard
end Rows
end Go.Proofs.YthhbiliimdpgmaaGreatDoor
