/-
  DERIVED. GIVEN WITH THE SEED: THE CARDS: each row of YtaeebgljcdfolaaGreatDoorRows.lean that lists a variable, with what it lists TIED to the program's text (the seventh form; the later family's looks); each row that meets fmt, with fmt's text TOLD by the authors' own Lean function (tested against real Go, not proved from fmt's source: count such statements apart). THE CARD IS WHAT COUNTS. Prove the row's statement (the work); the ties are given (YtaeebgljcdfolaaGreatDoorTie.lean); close each card by the builder's one call (the guide's Derived/Test/ToyasCard.lean, 'card_holds'). Laid BY PROGRAM, IN A SANDBOX (cutbox-door.mjs). By AI agents, Wed Nov 11 2026. No macro, syntax, notation, axiom, sorry.
-/
import Derived.Test.YtaeebgljcdfolaaGreatDoorRows
import GoSem.ClaimSeven
namespace Go.Proofs.YtaeebgljcdfolaaGreatDoor
namespace Rows

/-- THE TIED CARD OF 'quirelaw10.StoreBrings'. -/
def storeBringsCard : Claim7 := { stood := { row := storeBringsRow, standIns := [], harness := (true, "fe438d4a9d0a6aec95a5215cb1f5552b9e0f1b638b2608e8f53bf358339dc9ca"), looks := false }, kinds := [], alts := [], laidByText := true, laidKinds := [.data, .pinned], laidTests := true, laidLooks := .later }
def StoreBringsCardSaid : Prop := Claim7.holds Tryz.pinned (.plain (OpenSpec.ofChange storeBringsSpec)) storeBringsCard

/-- THE SECOND FORM's CARD OF 'quirelaw10.StoreBrings'. -/
def storeBringsUptoCard : Claim7 := { stood := { row := storeBringsUptoRow, standIns := [], harness := (true, "fe438d4a9d0a6aec95a5215cb1f5552b9e0f1b638b2608e8f53bf358339dc9ca"), looks := false }, kinds := [], alts := [], laidByText := true, laidKinds := [.data, .pinned], laidTests := true, laidLooks := .later }
def StoreBringsUptoCardSaid : Prop := Claim7.holds Tryz.pinned (.plain (OpenSpec.upto storeBringsSpec)) storeBringsUptoCard
end Rows
end Go.Proofs.YtaeebgljcdfolaaGreatDoor
