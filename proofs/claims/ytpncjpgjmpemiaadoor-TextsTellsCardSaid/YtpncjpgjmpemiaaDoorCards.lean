/-
  DERIVED. GIVEN WITH THE SEED: THE CARDS: each row of YtpncjpgjmpemiaaDoorRows.lean that lists a variable, with what it lists TIED to the program's text (the seventh form; the later family's looks); each row that meets fmt, with fmt's text TOLD by the authors' own Lean function (tested against real Go, not proved from fmt's source: count such statements apart). THE CARD IS WHAT COUNTS. Prove the row's statement (the work); the ties are given (YtpncjpgjmpemiaaDoorTie.lean); close each card by the builder's one call (the guide's Derived/Test/ToyasCard.lean, 'card_holds'). Laid BY PROGRAM, IN A SANDBOX (cutbox-door.mjs). By AI agents, Wed Nov 11 2026. No macro, syntax, notation, axiom, sorry.
-/
import Derived.Test.YtpncjpgjmpemiaaDoorRows
import GoSem.ClaimSeven
namespace Go.Proofs.YtpncjpgjmpemiaaDoor
namespace Rows

/-- THE TIED CARD OF 'twinsteplaw03.TextsNumbers'. -/
def textsNumbersCard : Claim7 := { stood := { row := textsNumbersRow, standIns := [], harness := (true, "aaf3cbb1ce9ede03c86bffbfe425ba39de9e8028604af8771abe7a9560b97bea"), looks := true }, kinds := [], alts := [], laidByText := true, laidKinds := [.data, .data, .data], laidTests := true, laidLooks := .later }
def TextsNumbersCardSaid : Prop := Claim7.holds Tryd.pinned (.plain (OpenSpec.ofChange textsNumbersSpec)) textsNumbersCard

/-- THE TIED CARD OF 'twinsteplaw03.TextsTells'. -/
def textsTellsCard : Claim7 := { stood := { row := textsTellsRow, standIns := [], harness := (true, "aaf3cbb1ce9ede03c86bffbfe425ba39de9e8028604af8771abe7a9560b97bea"), looks := true }, kinds := [], alts := [], laidByText := true, laidKinds := [.data, .data, .data], laidTests := true, laidLooks := .later }
def TextsTellsCardSaid : Prop := Claim7.holds Tryd.pinned (.plain (OpenSpec.ofChange textsTellsSpec)) textsTellsCard

/-- THE TIED CARD OF 'twinsteplaw03.TextsBack'. -/
def textsBackCard : Claim7 := { stood := { row := textsBackRow, standIns := [], harness := (true, "aaf3cbb1ce9ede03c86bffbfe425ba39de9e8028604af8771abe7a9560b97bea"), looks := true }, kinds := [], alts := [], laidByText := true, laidKinds := [.data, .data, .data], laidTests := true, laidLooks := .later }
def TextsBackCardSaid : Prop := Claim7.holds Tryd.pinned (.plain (OpenSpec.ofChange textsBackSpec)) textsBackCard

/-- THE TIED CARD OF 'twinsteplaw03.TextsOrder'. -/
def textsOrderCard : Claim7 := { stood := { row := textsOrderRow, standIns := [], harness := (true, "aaf3cbb1ce9ede03c86bffbfe425ba39de9e8028604af8771abe7a9560b97bea"), looks := true }, kinds := [], alts := [], laidByText := true, laidKinds := [.data, .data, .data], laidTests := true, laidLooks := .later }
def TextsOrderCardSaid : Prop := Claim7.holds Tryd.pinned (.plain (OpenSpec.ofChange textsOrderSpec)) textsOrderCard

/-- THE TIED CARD OF 'twinsteplaw02.IntsNumbers'. -/
def intsNumbersCard : Claim7 := { stood := { row := intsNumbersRow, standIns := [], harness := (true, "aaf3cbb1ce9ede03c86bffbfe425ba39de9e8028604af8771abe7a9560b97bea"), looks := true }, kinds := [], alts := [], laidByText := true, laidKinds := [.data, .data, .data, .sentinel, .sentinel], laidTests := true, laidLooks := .later }
def IntsNumbersCardSaid : Prop := Claim7.holds Tryd.pinned (.plain (OpenSpec.ofChange intsNumbersSpec)) intsNumbersCard

/-- THE TIED CARD OF 'twinsteplaw02.IntsTells'. -/
def intsTellsCard : Claim7 := { stood := { row := intsTellsRow, standIns := [], harness := (true, "aaf3cbb1ce9ede03c86bffbfe425ba39de9e8028604af8771abe7a9560b97bea"), looks := true }, kinds := [], alts := [], laidByText := true, laidKinds := [.data, .data, .data, .sentinel, .sentinel], laidTests := true, laidLooks := .later }
def IntsTellsCardSaid : Prop := Claim7.holds Tryd.pinned (.plain (OpenSpec.ofChange intsTellsSpec)) intsTellsCard

/-- THE TIED CARD OF 'twinsteplaw02.IntsRings'. -/
def intsRingsCard : Claim7 := { stood := { row := intsRingsRow, standIns := [], harness := (true, "aaf3cbb1ce9ede03c86bffbfe425ba39de9e8028604af8771abe7a9560b97bea"), looks := true }, kinds := [], alts := [], laidByText := true, laidKinds := [.data, .data, .data, .sentinel, .sentinel], laidTests := true, laidLooks := .later }
def IntsRingsCardSaid : Prop := Claim7.holds Tryd.pinned (.plain (OpenSpec.ofChange intsRingsSpec)) intsRingsCard

/-- THE TIED CARD OF 'twinsteplaw02.IntsShifts'. -/
def intsShiftsCard : Claim7 := { stood := { row := intsShiftsRow, standIns := [], harness := (true, "aaf3cbb1ce9ede03c86bffbfe425ba39de9e8028604af8771abe7a9560b97bea"), looks := true }, kinds := [], alts := [], laidByText := true, laidKinds := [.data, .data, .data, .sentinel, .sentinel], laidTests := true, laidLooks := .later }
def IntsShiftsCardSaid : Prop := Claim7.holds Tryd.pinned (.plain (OpenSpec.ofChange intsShiftsSpec)) intsShiftsCard

/-- THE TIED CARD OF 'twinsteplaw02.IntsBack'. -/
def intsBackCard : Claim7 := { stood := { row := intsBackRow, standIns := [], harness := (true, "aaf3cbb1ce9ede03c86bffbfe425ba39de9e8028604af8771abe7a9560b97bea"), looks := true }, kinds := [], alts := [], laidByText := true, laidKinds := [.data, .data, .data, .sentinel, .sentinel], laidTests := true, laidLooks := .later }
def IntsBackCardSaid : Prop := Claim7.holds Tryd.pinned (.plain (OpenSpec.ofChange intsBackSpec)) intsBackCard

/-- THE SECOND FORM's CARD OF 'twinsteplaw03.TextsNumbers'. -/
def textsNumbersUptoCard : Claim7 := { stood := { row := textsNumbersUptoRow, standIns := [], harness := (true, "aaf3cbb1ce9ede03c86bffbfe425ba39de9e8028604af8771abe7a9560b97bea"), looks := true }, kinds := [], alts := [], laidByText := true, laidKinds := [.data, .data, .data], laidTests := true, laidLooks := .later }
def TextsNumbersUptoCardSaid : Prop := Claim7.holds Tryd.pinned (.plain (OpenSpec.upto textsNumbersSpec)) textsNumbersUptoCard

/-- THE SECOND FORM's CARD OF 'twinsteplaw03.TextsTells'. -/
def textsTellsUptoCard : Claim7 := { stood := { row := textsTellsUptoRow, standIns := [], harness := (true, "aaf3cbb1ce9ede03c86bffbfe425ba39de9e8028604af8771abe7a9560b97bea"), looks := true }, kinds := [], alts := [], laidByText := true, laidKinds := [.data, .data, .data], laidTests := true, laidLooks := .later }
def TextsTellsUptoCardSaid : Prop := Claim7.holds Tryd.pinned (.plain (OpenSpec.upto textsTellsSpec)) textsTellsUptoCard

/-- THE SECOND FORM's CARD OF 'twinsteplaw03.TextsBack'. -/
def textsBackUptoCard : Claim7 := { stood := { row := textsBackUptoRow, standIns := [], harness := (true, "aaf3cbb1ce9ede03c86bffbfe425ba39de9e8028604af8771abe7a9560b97bea"), looks := true }, kinds := [], alts := [], laidByText := true, laidKinds := [.data, .data, .data], laidTests := true, laidLooks := .later }
def TextsBackUptoCardSaid : Prop := Claim7.holds Tryd.pinned (.plain (OpenSpec.upto textsBackSpec)) textsBackUptoCard

/-- THE SECOND FORM's CARD OF 'twinsteplaw03.TextsOrder'. -/
def textsOrderUptoCard : Claim7 := { stood := { row := textsOrderUptoRow, standIns := [], harness := (true, "aaf3cbb1ce9ede03c86bffbfe425ba39de9e8028604af8771abe7a9560b97bea"), looks := true }, kinds := [], alts := [], laidByText := true, laidKinds := [.data, .data, .data], laidTests := true, laidLooks := .later }
def TextsOrderUptoCardSaid : Prop := Claim7.holds Tryd.pinned (.plain (OpenSpec.upto textsOrderSpec)) textsOrderUptoCard

/-- THE SECOND FORM's CARD OF 'twinsteplaw02.IntsNumbers'. -/
def intsNumbersUptoCard : Claim7 := { stood := { row := intsNumbersUptoRow, standIns := [], harness := (true, "aaf3cbb1ce9ede03c86bffbfe425ba39de9e8028604af8771abe7a9560b97bea"), looks := true }, kinds := [], alts := [], laidByText := true, laidKinds := [.data, .data, .data, .sentinel, .sentinel], laidTests := true, laidLooks := .later }
def IntsNumbersUptoCardSaid : Prop := Claim7.holds Tryd.pinned (.plain (OpenSpec.upto intsNumbersSpec)) intsNumbersUptoCard

/-- THE SECOND FORM's CARD OF 'twinsteplaw02.IntsTells'. -/
def intsTellsUptoCard : Claim7 := { stood := { row := intsTellsUptoRow, standIns := [], harness := (true, "aaf3cbb1ce9ede03c86bffbfe425ba39de9e8028604af8771abe7a9560b97bea"), looks := true }, kinds := [], alts := [], laidByText := true, laidKinds := [.data, .data, .data, .sentinel, .sentinel], laidTests := true, laidLooks := .later }
def IntsTellsUptoCardSaid : Prop := Claim7.holds Tryd.pinned (.plain (OpenSpec.upto intsTellsSpec)) intsTellsUptoCard

/-- THE SECOND FORM's CARD OF 'twinsteplaw02.IntsRings'. -/
def intsRingsUptoCard : Claim7 := { stood := { row := intsRingsUptoRow, standIns := [], harness := (true, "aaf3cbb1ce9ede03c86bffbfe425ba39de9e8028604af8771abe7a9560b97bea"), looks := true }, kinds := [], alts := [], laidByText := true, laidKinds := [.data, .data, .data, .sentinel, .sentinel], laidTests := true, laidLooks := .later }
def IntsRingsUptoCardSaid : Prop := Claim7.holds Tryd.pinned (.plain (OpenSpec.upto intsRingsSpec)) intsRingsUptoCard

/-- THE SECOND FORM's CARD OF 'twinsteplaw02.IntsShifts'. -/
def intsShiftsUptoCard : Claim7 := { stood := { row := intsShiftsUptoRow, standIns := [], harness := (true, "aaf3cbb1ce9ede03c86bffbfe425ba39de9e8028604af8771abe7a9560b97bea"), looks := true }, kinds := [], alts := [], laidByText := true, laidKinds := [.data, .data, .data, .sentinel, .sentinel], laidTests := true, laidLooks := .later }
def IntsShiftsUptoCardSaid : Prop := Claim7.holds Tryd.pinned (.plain (OpenSpec.upto intsShiftsSpec)) intsShiftsUptoCard

/-- THE SECOND FORM's CARD OF 'twinsteplaw02.IntsBack'. -/
def intsBackUptoCard : Claim7 := { stood := { row := intsBackUptoRow, standIns := [], harness := (true, "aaf3cbb1ce9ede03c86bffbfe425ba39de9e8028604af8771abe7a9560b97bea"), looks := true }, kinds := [], alts := [], laidByText := true, laidKinds := [.data, .data, .data, .sentinel, .sentinel], laidTests := true, laidLooks := .later }
def IntsBackUptoCardSaid : Prop := Claim7.holds Tryd.pinned (.plain (OpenSpec.upto intsBackSpec)) intsBackUptoCard
end Rows
end Go.Proofs.YtpncjpgjmpemiaaDoor
