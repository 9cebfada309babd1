/-
  DERIVED. GIVEN WITH THE SEED: THE CARDS: each row of YtmkmdppjfdphnaaGreatDoorRows.lean that lists a variable, with what it lists TIED to the program's text (the seventh form; the later family's looks); each row that meets fmt, with fmt's text TOLD by the authors' own Lean function (tested against real Go, not proved from fmt's source: count such statements apart). THE CARD IS WHAT COUNTS. Prove the row's statement (the work); the ties are given (YtmkmdppjfdphnaaGreatDoorTie.lean); close each card by the builder's one call (the guide's Derived/Test/ToyasCard.lean, 'card_holds'). Laid BY PROGRAM, IN A SANDBOX (cutbox-door.mjs). By AI agents, Wed Nov 11 2026. No macro, syntax, notation, axiom, sorry.
-/
import Derived.Test.YtmkmdppjfdphnaaGreatDoorRows
import GoSem.ClaimSeven
namespace Go.Proofs.YtmkmdppjfdphnaaGreatDoor
namespace Rows

/-- THE TIED CARD OF 'twinsteplaw17.LibInstalls'. -/
def libInstallsCard : Claim7 := { stood := { row := libInstallsRow, standIns := [], harness := (true, "6928508d7c8bf37d61fba45c7b22dbeba4b2d29a310380930c1cd0c3b3315f34"), looks := true }, kinds := [], alts := [], laidByText := true, laidKinds := [.data, .data, .data, .sentinel, .sentinel], laidTests := true, laidLooks := .later }
def LibInstallsCardSaid : Prop := Claim7.holds Tryz.pinned (.plain (OpenSpec.ofChange libInstallsSpec)) libInstallsCard

/-- THE SECOND FORM's CARD OF 'twinsteplaw17.LibInstalls'. -/
def libInstallsUptoCard : Claim7 := { stood := { row := libInstallsUptoRow, standIns := [], harness := (true, "6928508d7c8bf37d61fba45c7b22dbeba4b2d29a310380930c1cd0c3b3315f34"), looks := true }, kinds := [], alts := [], laidByText := true, laidKinds := [.data, .data, .data, .sentinel, .sentinel], laidTests := true, laidLooks := .later }
def LibInstallsUptoCardSaid : Prop := Claim7.holds Tryz.pinned (.plain (OpenSpec.upto libInstallsSpec)) libInstallsUptoCard
end Rows
end Go.Proofs.YtmkmdppjfdphnaaGreatDoor
