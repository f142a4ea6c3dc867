/-
  DERIVED. GIVEN WITH THE SEED: THE CARDS: each row of YtndhmpeabfmfgaaGreatDoorRows.lean that lists a variable, with what it lists TIED to the program's text (the seventh form; the later family's looks); each row that meets fmt, with fmt's text TOLD by the authors' own Lean function (tested against real Go, not proved from fmt's source: count such statements apart). THE CARD IS WHAT COUNTS. Prove the row's statement (the work); the ties are given (YtndhmpeabfmfgaaGreatDoorTie.lean); close each card by the builder's one call (the guide's Derived/Test/ToyasCard.lean, 'card_holds'). Laid BY PROGRAM, IN A SANDBOX (cutbox-door.mjs). By AI agents, Wed Nov 11 2026. No macro, syntax, notation, axiom, sorry.
-/
import Derived.Test.YtndhmpeabfmfgaaGreatDoorRows
import GoSem.ClaimSeven
namespace Go.Proofs.YtndhmpeabfmfgaaGreatDoor
namespace Rows

/-- THE TIED CARD OF 'plexuslaw24.ProofNil'. -/
def proofNilCard : Claim7 := { stood := { row := proofNilRow, standIns := [], harness := (true, "7f313ea278a3a93a56119ceb364aa645f8664b1fef37f65eeb0ca3e96f8353f6"), looks := true }, kinds := [], alts := [], laidByText := true, laidKinds := [.data], laidTests := true, laidLooks := .later }
def ProofNilCardSaid : Prop := Claim7.holds Tryz.pinned (.plain (OpenSpec.ofChange proofNilSpec)) proofNilCard

/-- THE SECOND FORM's CARD OF 'plexuslaw24.ProofNil'. -/
def proofNilUptoCard : Claim7 := { stood := { row := proofNilUptoRow, standIns := [], harness := (true, "7f313ea278a3a93a56119ceb364aa645f8664b1fef37f65eeb0ca3e96f8353f6"), looks := true }, kinds := [], alts := [], laidByText := true, laidKinds := [.data], laidTests := true, laidLooks := .later }
def ProofNilUptoCardSaid : Prop := Claim7.holds Tryz.pinned (.plain (OpenSpec.upto proofNilSpec)) proofNilUptoCard
end Rows
end Go.Proofs.YtndhmpeabfmfgaaGreatDoor
