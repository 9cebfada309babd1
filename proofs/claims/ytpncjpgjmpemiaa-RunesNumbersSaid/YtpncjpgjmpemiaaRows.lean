/-
  No cell of these rows narrows 'for every input' (looked for: loops, veiled, ifaces, maps, wideKeys, modest, calm, conditions, laid).
  DERIVED. THE GIVEN ROWS OF THIS SEAT. 3 by the template 'for every input the law returns true; each argument reads behind the call as it read before'; 0 by the template 'total and deterministic' (their statements: YtpncjpgjmpemiaaTotals.lean).
  GIVEN WITH THE SEED: the statements are not yours to turn. If you find one false, say at which input.
  Laid BY PROGRAM, IN A SANDBOX (cutbox-rows.mjs): the forced cells as the released guide's own fill.sh prints them over the translation a15465ae3ca4330f… (all of the seat's roots in one cut). By AI agents, Wed Nov 11 2026. No macro, syntax, notation, axiom, sorry.
-/
import Derived.Test.YtpncjpgjmpemiaaChecked
import GoSem.Claim
import GoSem.ClaimJoined
import GoSem.ClaimMapViews
import Derived.JoinedTies
import Derived.KernelRfl
namespace Go.Proofs.Ytpncjpgjmpemiaa
/- THE CELL 'sum', in the pinned program and in every row, IS THE sha256 OF THE DUMP (.gsa) THAT YtpncjpgjmpemiaaProg.lean LOADS. Nothing in Lean hashes anything: it is a label: what it is worth is what the hold of that sum in a sandbox is worth. -/
noncomputable def Try.pinned : Pinned := { name := "ytpncjpgjmpemiaa", sum := "a15465ae3ca4330f16665484b9f45f0f6570f8dd824fc3a672cd4d8c97d8509d", checked := Try.checked }
namespace Rows
def none {H : Type} : Left H := { results := [], args := [] }

/-- 'twinsteplaw01.RunesTells': WHATEVER THE INPUT: true; the input reads as it did. -/
def runesTellsSpec : ChangeSpec := { name := "runesTells", fn := fun _ => fun
  | [d1, d2] => { results := [.lit (.bool true)], args := [d1, d2] }
  | _ => none }
def runesTellsRow : OpenClaim := { program := "ytpncjpgjmpemiaa", sum := "a15465ae3ca4330f16665484b9f45f0f6570f8dd824fc3a672cd4d8c97d8509d", func := "twinstep/twinsteplaw01.RunesTells", spec := "runesTells", apart := false }
def RunesTellsSaid : Prop := runesTellsRow.holds Try.pinned (OpenSpec.ofChange runesTellsSpec)

/-- ITS FALSE NEIGHBOUR: 'it returns false'. Refute it at one input. -/
def runesTellsWrong : ChangeSpec := { name := "runesTells", fn := fun _ => fun
  | [d1, d2] => { results := [.lit (.bool false)], args := [d1, d2] }
  | _ => none }
def RunesTellsWrongFalsely : Prop := runesTellsRow.holds Try.pinned (OpenSpec.ofChange runesTellsWrong)

/-- 'twinsteplaw01.RunesBack': WHATEVER THE INPUT: true; the input reads as it did. -/
def runesBackSpec : ChangeSpec := { name := "runesBack", fn := fun _ => fun
  | [d1, d2, d3] => { results := [.lit (.bool true)], args := [d1, d2, d3] }
  | _ => none }
def runesBackRow : OpenClaim := { program := "ytpncjpgjmpemiaa", sum := "a15465ae3ca4330f16665484b9f45f0f6570f8dd824fc3a672cd4d8c97d8509d", func := "twinstep/twinsteplaw01.RunesBack", spec := "runesBack", apart := false }
def RunesBackSaid : Prop := runesBackRow.holds Try.pinned (OpenSpec.ofChange runesBackSpec)

/-- ITS FALSE NEIGHBOUR: 'it returns false'. Refute it at one input. -/
def runesBackWrong : ChangeSpec := { name := "runesBack", fn := fun _ => fun
  | [d1, d2, d3] => { results := [.lit (.bool false)], args := [d1, d2, d3] }
  | _ => none }
def RunesBackWrongFalsely : Prop := runesBackRow.holds Try.pinned (OpenSpec.ofChange runesBackWrong)

/-- 'twinsteplaw01.RunesNumbers': WHATEVER THE INPUT: true; the input reads as it did. -/
def runesNumbersSpec : ChangeSpec := { name := "runesNumbers", fn := fun _ => fun
  | [] => { results := [.lit (.bool true)], args := [] }
  | _ => none }
def runesNumbersRow : OpenClaim := { program := "ytpncjpgjmpemiaa", sum := "a15465ae3ca4330f16665484b9f45f0f6570f8dd824fc3a672cd4d8c97d8509d", func := "twinstep/twinsteplaw01.RunesNumbers", spec := "runesNumbers", apart := false }
def RunesNumbersSaid : Prop := runesNumbersRow.holds Try.pinned (OpenSpec.ofChange runesNumbersSpec)

/-- ITS FALSE NEIGHBOUR: 'it returns false'. Refute it at one input. -/
def runesNumbersWrong : ChangeSpec := { name := "runesNumbers", fn := fun _ => fun
  | [] => { results := [.lit (.bool false)], args := [] }
  | _ => none }
def RunesNumbersWrongFalsely : Prop := runesNumbersRow.holds Try.pinned (OpenSpec.ofChange runesNumbersWrong)

/- THE SECOND FORM. 'bulk': how many values and letters a reading holds, each counted each time it is reached (what is shared counts as often as it is met; a slice's spare places count too). A statement '..UptoSaid' is the law's where the arguments, and the package variables that the reading takes, are together of bulk at most 1048576: NARROWER than '..Said'. Prove '..Said' where nothing that the law and all that it calls make is longer than what came in: it says more and counts as full. Else prove '..UptoSaid'. A law counts once. -/
mutual
def uptoBulk {H : Type} : DataW H → Nat
  | .lit (.string bytes) => bytes.length + 1
  | .lit _ => 1
  | .nil => 1
  | .ptr d => uptoBulk d + 1
  | .slice elems spare => uptoBulkAll elems + uptoBulkAll spare + 1
  | .agg parts => uptoBulkAll parts + 1
  | .iface _ d => uptoBulk d + 1
  | .map entries => uptoBulkEntries entries + 1
  | .held _ => 1
def uptoBulkAll {H : Type} : List (DataW H) → Nat
  | [] => 0
  | d :: r => uptoBulk d + uptoBulkAll r
def uptoBulkEntries {H : Type} : List (Lit × DataW H) → Nat
  | [] => 0
  | x :: r => uptoBulkEntry x + uptoBulkEntries r
def uptoBulkEntry {H : Type} : Lit × DataW H → Nat
  | (.string bytes, d) => bytes.length + uptoBulk d + 1
  | (_, d) => uptoBulk d + 1
 end
def uptoSmall : (H : Type) → List (DataW H) → Bool := fun _ ds => decide (uptoBulkAll ds ≤ 1048576)
def OpenSpec.upto (s : _root_.Go.ChangeSpec) : _root_.Go.OpenSpec := { _root_.Go.OpenSpec.ofChange s with cond := some uptoSmall }

/-- 'twinsteplaw01.RunesTells', WHERE WHAT IT READS IS OF BULK AT MOST 1048576: true; the input reads as it did. -/
def runesTellsUptoRow : OpenClaim := { program := "ytpncjpgjmpemiaa", sum := "a15465ae3ca4330f16665484b9f45f0f6570f8dd824fc3a672cd4d8c97d8509d", func := "twinstep/twinsteplaw01.RunesTells", spec := "runesTells", apart := false, narrowed := true }
def RunesTellsUptoSaid : Prop := runesTellsUptoRow.holds Try.pinned (OpenSpec.upto runesTellsSpec)

/-- 'twinsteplaw01.RunesBack', WHERE WHAT IT READS IS OF BULK AT MOST 1048576: true; the input reads as it did. -/
def runesBackUptoRow : OpenClaim := { program := "ytpncjpgjmpemiaa", sum := "a15465ae3ca4330f16665484b9f45f0f6570f8dd824fc3a672cd4d8c97d8509d", func := "twinstep/twinsteplaw01.RunesBack", spec := "runesBack", apart := false, narrowed := true }
def RunesBackUptoSaid : Prop := runesBackUptoRow.holds Try.pinned (OpenSpec.upto runesBackSpec)

/-- 'twinsteplaw01.RunesNumbers', WHERE WHAT IT READS IS OF BULK AT MOST 1048576: true; the input reads as it did. -/
def runesNumbersUptoRow : OpenClaim := { program := "ytpncjpgjmpemiaa", sum := "a15465ae3ca4330f16665484b9f45f0f6570f8dd824fc3a672cd4d8c97d8509d", func := "twinstep/twinsteplaw01.RunesNumbers", spec := "runesNumbers", apart := false, narrowed := true }
def RunesNumbersUptoSaid : Prop := runesNumbersUptoRow.holds Try.pinned (OpenSpec.upto runesNumbersSpec)

end Rows
end Go.Proofs.Ytpncjpgjmpemiaa
