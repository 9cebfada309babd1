/-
  DERIVED. GIVEN WITH THE SEED: THE CARDS: each row of YtdfadipfhcikdaaGreatDoorRows.lean that lists a variable, with what it lists TIED to the program's text (the seventh form; the later family's looks); each row that meets fmt, with fmt's text TOLD by the authors' own Lean function (tested against real Go, not proved from fmt's source: count such statements apart). THE CARD IS WHAT COUNTS. Prove the row's statement (the work); the ties are given (YtdfadipfhcikdaaGreatDoorTie.lean); close each card by the builder's one call (the guide's Derived/Test/ToyasCard.lean, 'card_holds'). Laid BY PROGRAM, IN A SANDBOX (cutbox-door.mjs). By AI agents, Wed Nov 11 2026. No macro, syntax, notation, axiom, sorry.
-/
import Derived.Test.YtdfadipfhcikdaaGreatDoorRows
import GoSem.ClaimSeven
namespace Go.Proofs.YtdfadipfhcikdaaGreatDoor
namespace Rows

/-- THE TIED CARD OF 'twinsteplaw17.LibGoes'. -/
def libGoesCard : Claim7 := { stood := { row := libGoesRow, standIns := [], harness := (true, "630ee84e6a341674f1e1107083a4ecbedb861e6090d6f95055e4094b07dd5c5e"), looks := true }, kinds := [], alts := [], laidByText := true, laidKinds := [.data, .data, .data, .sentinel, .sentinel], laidTests := true, laidLooks := .later }
def LibGoesCardSaid : Prop := Claim7.holds Tryz.pinned (.plain (OpenSpec.ofChange libGoesSpec)) libGoesCard

/-- THE SECOND FORM's CARD OF 'twinsteplaw17.LibGoes'. -/
def libGoesUptoCard : Claim7 := { stood := { row := libGoesUptoRow, standIns := [], harness := (true, "630ee84e6a341674f1e1107083a4ecbedb861e6090d6f95055e4094b07dd5c5e"), looks := true }, kinds := [], alts := [], laidByText := true, laidKinds := [.data, .data, .data, .sentinel, .sentinel], laidTests := true, laidLooks := .later }
def LibGoesUptoCardSaid : Prop := Claim7.holds Tryz.pinned (.plain (OpenSpec.upto libGoesSpec)) libGoesUptoCard
end Rows
end Go.Proofs.YtdfadipfhcikdaaGreatDoor
