/-
  DERIVED. GIVEN WITH THE SEED: THE CARDS: each row of YtedfjfpnpncgkaaDoorRows.lean that lists a variable, with what it lists TIED to the program's text (the seventh form; the later family's looks); each row that meets fmt, with fmt's text TOLD by the authors' own Lean function (tested against real Go, not proved from fmt's source: count such statements apart). THE CARD IS WHAT COUNTS. Prove the row's statement (the work); the ties are given (YtedfjfpnpncgkaaDoorTie.lean); close each card by the builder's one call (the guide's Derived/Test/ToyasCard.lean, 'card_holds'). Laid BY PROGRAM, IN A SANDBOX (cutbox-door.mjs). By AI agents, Wed Nov 11 2026. No macro, syntax, notation, axiom, sorry.
-/
import Derived.Test.YtedfjfpnpncgkaaDoorRows
import GoSem.ClaimSeven
namespace Go.Proofs.YtedfjfpnpncgkaaDoor
namespace Rows

/-- THE TIED CARD OF 'twinsteplaw02.IntsTells'. -/
def intsTellsCard : Claim7 := { stood := { row := intsTellsRow, standIns := [], harness := (true, "2989bc1009edea1c78be6fbfea8bf92ce0dfb6c1645efc9dc5c1bfe9d932996a"), looks := true }, kinds := [], alts := [], laidByText := true, laidKinds := [.data, .data, .data, .sentinel, .sentinel], laidTests := true, laidLooks := .later }
def IntsTellsCardSaid : Prop := Claim7.holds Tryd.pinned (.plain (OpenSpec.ofChange intsTellsSpec)) intsTellsCard

/-- THE TIED CARD OF 'twinsteplaw02.IntsBack'. -/
def intsBackCard : Claim7 := { stood := { row := intsBackRow, standIns := [], harness := (true, "2989bc1009edea1c78be6fbfea8bf92ce0dfb6c1645efc9dc5c1bfe9d932996a"), looks := true }, kinds := [], alts := [], laidByText := true, laidKinds := [.data, .data, .data, .sentinel, .sentinel], laidTests := true, laidLooks := .later }
def IntsBackCardSaid : Prop := Claim7.holds Tryd.pinned (.plain (OpenSpec.ofChange intsBackSpec)) intsBackCard

/-- THE SECOND FORM's CARD OF 'twinsteplaw02.IntsTells'. -/
def intsTellsUptoCard : Claim7 := { stood := { row := intsTellsUptoRow, standIns := [], harness := (true, "2989bc1009edea1c78be6fbfea8bf92ce0dfb6c1645efc9dc5c1bfe9d932996a"), looks := true }, kinds := [], alts := [], laidByText := true, laidKinds := [.data, .data, .data, .sentinel, .sentinel], laidTests := true, laidLooks := .later }
def IntsTellsUptoCardSaid : Prop := Claim7.holds Tryd.pinned (.plain (OpenSpec.upto intsTellsSpec)) intsTellsUptoCard

/-- THE SECOND FORM's CARD OF 'twinsteplaw02.IntsBack'. -/
def intsBackUptoCard : Claim7 := { stood := { row := intsBackUptoRow, standIns := [], harness := (true, "2989bc1009edea1c78be6fbfea8bf92ce0dfb6c1645efc9dc5c1bfe9d932996a"), looks := true }, kinds := [], alts := [], laidByText := true, laidKinds := [.data, .data, .data, .sentinel, .sentinel], laidTests := true, laidLooks := .later }
def IntsBackUptoCardSaid : Prop := Claim7.holds Tryd.pinned (.plain (OpenSpec.upto intsBackSpec)) intsBackUptoCard
end Rows
end Go.Proofs.YtedfjfpnpncgkaaDoor
