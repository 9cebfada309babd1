/-
  No cell of these rows narrows 'for every input' (looked for: loops, veiled, ifaces, maps, wideKeys, modest, calm, conditions, laid).
  DERIVED. THE GIVEN ROWS OF THIS SEAT. 12 by the template 'for every input the law returns true; each argument reads behind the call as it read before'; 0 by the template 'total and deterministic' (their statements: YtmflapajjghpmaaTotals.lean).
  GIVEN WITH THE SEED: the statements are not yours to turn. If you find one false, say at which input.
  Laid BY PROGRAM, IN A SANDBOX (cutbox-rows.mjs): the forced cells as the released guide's own fill.sh prints them over the translation 591251c45a0ef888… (all of the seat's roots in one cut). By AI agents, Wed Nov 11 2026. No macro, syntax, notation, axiom, sorry.
-/
import Derived.Test.YtmflapajjghpmaaChecked
import GoSem.Claim
import GoSem.ClaimJoined
import GoSem.ClaimMapViews
import Derived.JoinedTies
import Derived.KernelRfl
namespace Go.Proofs.Ytmflapajjghpmaa
/- THE CELL 'sum', in the pinned program and in every row, IS THE sha256 OF THE DUMP (.gsa) THAT YtmflapajjghpmaaProg.lean LOADS. Nothing in Lean hashes anything: it is a label: what it is worth is what the hold of that sum in a sandbox is worth. -/
noncomputable def Try.pinned : Pinned := { name := "ytmflapajjghpmaa", sum := "591251c45a0ef888799af9958286dbf7df4542c3a61e5a99aa42831e6aa4f264", checked := Try.checked }
namespace Rows
def none {H : Type} : Left H := { results := [], args := [] }

/-- 'twinsteplaw12.PoolOnce': WHATEVER THE INPUT: true; the input reads as it did. -/
def poolOnceSpec : ChangeSpec := { name := "poolOnce", fn := fun _ => fun
  | [d1, d2] => { results := [.lit (.bool true)], args := [d1, d2] }
  | _ => none }
def poolOnceRow : OpenClaim := { program := "ytmflapajjghpmaa", sum := "591251c45a0ef888799af9958286dbf7df4542c3a61e5a99aa42831e6aa4f264", func := "twinstep/twinsteplaw12.PoolOnce", spec := "poolOnce", unfollowed := true, recurses := true, plainKeys := false, apart := false }
def PoolOnceSaid : Prop := poolOnceRow.holds Try.pinned (OpenSpec.ofChange poolOnceSpec)

/-- ITS FALSE NEIGHBOUR: 'it returns false'. Refute it at one input. -/
def poolOnceWrong : ChangeSpec := { name := "poolOnce", fn := fun _ => fun
  | [d1, d2] => { results := [.lit (.bool false)], args := [d1, d2] }
  | _ => none }
def PoolOnceWrongFalsely : Prop := poolOnceRow.holds Try.pinned (OpenSpec.ofChange poolOnceWrong)

/-- 'twinsteplaw13.TableMap': WHATEVER THE INPUT: true; the input reads as it did. -/
def tableMapSpec : ChangeSpec := { name := "tableMap", fn := fun _ => fun
  | [d1, d2] => { results := [.lit (.bool true)], args := [d1, d2] }
  | _ => none }
def tableMapRow : OpenClaim := { program := "ytmflapajjghpmaa", sum := "591251c45a0ef888799af9958286dbf7df4542c3a61e5a99aa42831e6aa4f264", func := "twinstep/twinsteplaw13.TableMap", spec := "tableMap", unfollowed := true, recurses := true, plainKeys := false, apart := false }
def TableMapSaid : Prop := tableMapRow.holds Try.pinned (OpenSpec.ofChange tableMapSpec)

/-- ITS FALSE NEIGHBOUR: 'it returns false'. Refute it at one input. -/
def tableMapWrong : ChangeSpec := { name := "tableMap", fn := fun _ => fun
  | [d1, d2] => { results := [.lit (.bool false)], args := [d1, d2] }
  | _ => none }
def TableMapWrongFalsely : Prop := tableMapRow.holds Try.pinned (OpenSpec.ofChange tableMapWrong)

/-- 'twinsteplaw13.TableClears': WHATEVER THE INPUT: true; the input reads as it did. -/
def tableClearsSpec : ChangeSpec := { name := "tableClears", fn := fun _ => fun
  | [d] => { results := [.lit (.bool true)], args := [d] }
  | _ => none }
def tableClearsRow : OpenClaim := { program := "ytmflapajjghpmaa", sum := "591251c45a0ef888799af9958286dbf7df4542c3a61e5a99aa42831e6aa4f264", func := "twinstep/twinsteplaw13.TableClears", spec := "tableClears", unfollowed := true, recurses := true, plainKeys := false, apart := false }
def TableClearsSaid : Prop := tableClearsRow.holds Try.pinned (OpenSpec.ofChange tableClearsSpec)

/-- ITS FALSE NEIGHBOUR: 'it returns false'. Refute it at one input. -/
def tableClearsWrong : ChangeSpec := { name := "tableClears", fn := fun _ => fun
  | [d] => { results := [.lit (.bool false)], args := [d] }
  | _ => none }
def TableClearsWrongFalsely : Prop := tableClearsRow.holds Try.pinned (OpenSpec.ofChange tableClearsWrong)

/-- 'twinsteplaw13.TableBorder': WHATEVER THE INPUT: true; the input reads as it did. -/
def tableBorderSpec : ChangeSpec := { name := "tableBorder", fn := fun _ => fun
  | [d1, d2] => { results := [.lit (.bool true)], args := [d1, d2] }
  | _ => none }
def tableBorderRow : OpenClaim := { program := "ytmflapajjghpmaa", sum := "591251c45a0ef888799af9958286dbf7df4542c3a61e5a99aa42831e6aa4f264", func := "twinstep/twinsteplaw13.TableBorder", spec := "tableBorder", unfollowed := true, recurses := true, plainKeys := false, apart := false }
def TableBorderSaid : Prop := tableBorderRow.holds Try.pinned (OpenSpec.ofChange tableBorderSpec)

/-- ITS FALSE NEIGHBOUR: 'it returns false'. Refute it at one input. -/
def tableBorderWrong : ChangeSpec := { name := "tableBorder", fn := fun _ => fun
  | [d1, d2] => { results := [.lit (.bool false)], args := [d1, d2] }
  | _ => none }
def TableBorderWrongFalsely : Prop := tableBorderRow.holds Try.pinned (OpenSpec.ofChange tableBorderWrong)

/-- 'twinsteplaw12.PoolNumbers': WHATEVER THE INPUT: true; the input reads as it did. -/
def poolNumbersSpec : ChangeSpec := { name := "poolNumbers", fn := fun _ => fun
  | [] => { results := [.lit (.bool true)], args := [] }
  | _ => none }
def poolNumbersRow : OpenClaim := { program := "ytmflapajjghpmaa", sum := "591251c45a0ef888799af9958286dbf7df4542c3a61e5a99aa42831e6aa4f264", func := "twinstep/twinsteplaw12.PoolNumbers", spec := "poolNumbers", unfollowed := true, recurses := true, plainKeys := false, apart := false }
def PoolNumbersSaid : Prop := poolNumbersRow.holds Try.pinned (OpenSpec.ofChange poolNumbersSpec)

/-- ITS FALSE NEIGHBOUR: 'it returns false'. Refute it at one input. -/
def poolNumbersWrong : ChangeSpec := { name := "poolNumbers", fn := fun _ => fun
  | [] => { results := [.lit (.bool false)], args := [] }
  | _ => none }
def PoolNumbersWrongFalsely : Prop := poolNumbersRow.holds Try.pinned (OpenSpec.ofChange poolNumbersWrong)

/-- 'twinsteplaw13.TableNone': WHATEVER THE INPUT: true; the input reads as it did. -/
def tableNoneSpec : ChangeSpec := { name := "tableNone", fn := fun _ => fun
  | [d1, d2] => { results := [.lit (.bool true)], args := [d1, d2] }
  | _ => none }
def tableNoneRow : OpenClaim := { program := "ytmflapajjghpmaa", sum := "591251c45a0ef888799af9958286dbf7df4542c3a61e5a99aa42831e6aa4f264", func := "twinstep/twinsteplaw13.TableNone", spec := "tableNone", unfollowed := true, recurses := true, plainKeys := false, apart := false }
def TableNoneSaid : Prop := tableNoneRow.holds Try.pinned (OpenSpec.ofChange tableNoneSpec)

/-- ITS FALSE NEIGHBOUR: 'it returns false'. Refute it at one input. -/
def tableNoneWrong : ChangeSpec := { name := "tableNone", fn := fun _ => fun
  | [d1, d2] => { results := [.lit (.bool false)], args := [d1, d2] }
  | _ => none }
def TableNoneWrongFalsely : Prop := tableNoneRow.holds Try.pinned (OpenSpec.ofChange tableNoneWrong)

/-- 'twinsteplaw12.PoolPlays': WHATEVER THE INPUT: true; the input reads as it did. -/
def poolPlaysSpec : ChangeSpec := { name := "poolPlays", fn := fun _ => fun
  | [d1, d2] => { results := [.lit (.bool true)], args := [d1, d2] }
  | _ => none }
def poolPlaysRow : OpenClaim := { program := "ytmflapajjghpmaa", sum := "591251c45a0ef888799af9958286dbf7df4542c3a61e5a99aa42831e6aa4f264", func := "twinstep/twinsteplaw12.PoolPlays", spec := "poolPlays", unfollowed := true, recurses := true, plainKeys := false, apart := false }
def PoolPlaysSaid : Prop := poolPlaysRow.holds Try.pinned (OpenSpec.ofChange poolPlaysSpec)

/-- ITS FALSE NEIGHBOUR: 'it returns false'. Refute it at one input. -/
def poolPlaysWrong : ChangeSpec := { name := "poolPlays", fn := fun _ => fun
  | [d1, d2] => { results := [.lit (.bool false)], args := [d1, d2] }
  | _ => none }
def PoolPlaysWrongFalsely : Prop := poolPlaysRow.holds Try.pinned (OpenSpec.ofChange poolPlaysWrong)

/-- 'twinsteplaw12.PoolNone': WHATEVER THE INPUT: true; the input reads as it did. -/
def poolNoneSpec : ChangeSpec := { name := "poolNone", fn := fun _ => fun
  | [d1, d2] => { results := [.lit (.bool true)], args := [d1, d2] }
  | _ => none }
def poolNoneRow : OpenClaim := { program := "ytmflapajjghpmaa", sum := "591251c45a0ef888799af9958286dbf7df4542c3a61e5a99aa42831e6aa4f264", func := "twinstep/twinsteplaw12.PoolNone", spec := "poolNone", unfollowed := true, recurses := true, plainKeys := false, apart := false }
def PoolNoneSaid : Prop := poolNoneRow.holds Try.pinned (OpenSpec.ofChange poolNoneSpec)

/-- ITS FALSE NEIGHBOUR: 'it returns false'. Refute it at one input. -/
def poolNoneWrong : ChangeSpec := { name := "poolNone", fn := fun _ => fun
  | [d1, d2] => { results := [.lit (.bool false)], args := [d1, d2] }
  | _ => none }
def PoolNoneWrongFalsely : Prop := poolNoneRow.holds Try.pinned (OpenSpec.ofChange poolNoneWrong)

/-- 'twinsteplaw14.HeapTexts': WHATEVER THE INPUT: true; the input reads as it did. -/
def heapTextsSpec : ChangeSpec := { name := "heapTexts", fn := fun _ => fun
  | [d] => { results := [.lit (.bool true)], args := [d] }
  | _ => none }
def heapTextsRow : OpenClaim := { program := "ytmflapajjghpmaa", sum := "591251c45a0ef888799af9958286dbf7df4542c3a61e5a99aa42831e6aa4f264", func := "twinstep/twinsteplaw14.HeapTexts", spec := "heapTexts", unfollowed := true, recurses := true, plainKeys := false, apart := false }
def HeapTextsSaid : Prop := heapTextsRow.holds Try.pinned (OpenSpec.ofChange heapTextsSpec)

/-- ITS FALSE NEIGHBOUR: 'it returns false'. Refute it at one input. -/
def heapTextsWrong : ChangeSpec := { name := "heapTexts", fn := fun _ => fun
  | [d] => { results := [.lit (.bool false)], args := [d] }
  | _ => none }
def HeapTextsWrongFalsely : Prop := heapTextsRow.holds Try.pinned (OpenSpec.ofChange heapTextsWrong)

/-- 'twinsteplaw14.HeapKeeps': WHATEVER THE INPUT: true; the input reads as it did. -/
def heapKeepsSpec : ChangeSpec := { name := "heapKeeps", fn := fun _ => fun
  | [d] => { results := [.lit (.bool true)], args := [d] }
  | _ => none }
def heapKeepsRow : OpenClaim := { program := "ytmflapajjghpmaa", sum := "591251c45a0ef888799af9958286dbf7df4542c3a61e5a99aa42831e6aa4f264", func := "twinstep/twinsteplaw14.HeapKeeps", spec := "heapKeeps", unfollowed := true, recurses := true, plainKeys := false, apart := false }
def HeapKeepsSaid : Prop := heapKeepsRow.holds Try.pinned (OpenSpec.ofChange heapKeepsSpec)

/-- ITS FALSE NEIGHBOUR: 'it returns false'. Refute it at one input. -/
def heapKeepsWrong : ChangeSpec := { name := "heapKeeps", fn := fun _ => fun
  | [d] => { results := [.lit (.bool false)], args := [d] }
  | _ => none }
def HeapKeepsWrongFalsely : Prop := heapKeepsRow.holds Try.pinned (OpenSpec.ofChange heapKeepsWrong)

/-- 'twinsteplaw15.CollectNone': WHATEVER THE INPUT: true; the input reads as it did. -/
def collectNoneSpec : ChangeSpec := { name := "collectNone", fn := fun _ => fun
  | [d] => { results := [.lit (.bool true)], args := [d] }
  | _ => none }
def collectNoneRow : OpenClaim := { program := "ytmflapajjghpmaa", sum := "591251c45a0ef888799af9958286dbf7df4542c3a61e5a99aa42831e6aa4f264", func := "twinstep/twinsteplaw15.CollectNone", spec := "collectNone", unfollowed := true, recurses := true, plainKeys := false, apart := false }
def CollectNoneSaid : Prop := collectNoneRow.holds Try.pinned (OpenSpec.ofChange collectNoneSpec)

/-- ITS FALSE NEIGHBOUR: 'it returns false'. Refute it at one input. -/
def collectNoneWrong : ChangeSpec := { name := "collectNone", fn := fun _ => fun
  | [d] => { results := [.lit (.bool false)], args := [d] }
  | _ => none }
def CollectNoneWrongFalsely : Prop := collectNoneRow.holds Try.pinned (OpenSpec.ofChange collectNoneWrong)

/-- 'twinsteplaw14.HeapNone': WHATEVER THE INPUT: true; the input reads as it did. -/
def heapNoneSpec : ChangeSpec := { name := "heapNone", fn := fun _ => fun
  | [d1, d2] => { results := [.lit (.bool true)], args := [d1, d2] }
  | _ => none }
def heapNoneRow : OpenClaim := { program := "ytmflapajjghpmaa", sum := "591251c45a0ef888799af9958286dbf7df4542c3a61e5a99aa42831e6aa4f264", func := "twinstep/twinsteplaw14.HeapNone", spec := "heapNone", unfollowed := true, recurses := true, plainKeys := false, apart := false }
def HeapNoneSaid : Prop := heapNoneRow.holds Try.pinned (OpenSpec.ofChange heapNoneSpec)

/-- ITS FALSE NEIGHBOUR: 'it returns false'. Refute it at one input. -/
def heapNoneWrong : ChangeSpec := { name := "heapNone", fn := fun _ => fun
  | [d1, d2] => { results := [.lit (.bool false)], args := [d1, d2] }
  | _ => none }
def HeapNoneWrongFalsely : Prop := heapNoneRow.holds Try.pinned (OpenSpec.ofChange heapNoneWrong)

/- THE SECOND FORM. 'bulk': how many values and letters a reading holds, each counted each time it is reached (what is shared counts as often as it is met; a slice's spare places count too). A statement '..UptoSaid' is the law's where the arguments, and the package variables that the reading takes, are together of bulk at most 1048576: NARROWER than '..Said'. Prove '..Said' where nothing that the law and all that it calls make is longer than what came in: it says more and counts as full. Else prove '..UptoSaid'. A law counts once. -/
mutual
def uptoBulk {H : Type} : DataW H → Nat
  | .lit (.string bytes) => bytes.length + 1
  | .lit _ => 1
  | .nil => 1
  | .ptr d => uptoBulk d + 1
  | .slice elems spare => uptoBulkAll elems + uptoBulkAll spare + 1
  | .agg parts => uptoBulkAll parts + 1
  | .iface _ d => uptoBulk d + 1
  | .map entries => uptoBulkEntries entries + 1
  | .held _ => 1
def uptoBulkAll {H : Type} : List (DataW H) → Nat
  | [] => 0
  | d :: r => uptoBulk d + uptoBulkAll r
def uptoBulkEntries {H : Type} : List (Lit × DataW H) → Nat
  | [] => 0
  | x :: r => uptoBulkEntry x + uptoBulkEntries r
def uptoBulkEntry {H : Type} : Lit × DataW H → Nat
  | (.string bytes, d) => bytes.length + uptoBulk d + 1
  | (_, d) => uptoBulk d + 1
 end
def uptoSmall : (H : Type) → List (DataW H) → Bool := fun _ ds => decide (uptoBulkAll ds ≤ 1048576)
def OpenSpec.upto (s : _root_.Go.ChangeSpec) : _root_.Go.OpenSpec := { _root_.Go.OpenSpec.ofChange s with cond := some uptoSmall }

/-- 'twinsteplaw12.PoolOnce', WHERE WHAT IT READS IS OF BULK AT MOST 1048576: true; the input reads as it did. -/
def poolOnceUptoRow : OpenClaim := { program := "ytmflapajjghpmaa", sum := "591251c45a0ef888799af9958286dbf7df4542c3a61e5a99aa42831e6aa4f264", func := "twinstep/twinsteplaw12.PoolOnce", spec := "poolOnce", unfollowed := true, recurses := true, plainKeys := false, apart := false, narrowed := true }
def PoolOnceUptoSaid : Prop := poolOnceUptoRow.holds Try.pinned (OpenSpec.upto poolOnceSpec)

/-- 'twinsteplaw13.TableMap', WHERE WHAT IT READS IS OF BULK AT MOST 1048576: true; the input reads as it did. -/
def tableMapUptoRow : OpenClaim := { program := "ytmflapajjghpmaa", sum := "591251c45a0ef888799af9958286dbf7df4542c3a61e5a99aa42831e6aa4f264", func := "twinstep/twinsteplaw13.TableMap", spec := "tableMap", unfollowed := true, recurses := true, plainKeys := false, apart := false, narrowed := true }
def TableMapUptoSaid : Prop := tableMapUptoRow.holds Try.pinned (OpenSpec.upto tableMapSpec)

/-- 'twinsteplaw13.TableClears', WHERE WHAT IT READS IS OF BULK AT MOST 1048576: true; the input reads as it did. -/
def tableClearsUptoRow : OpenClaim := { program := "ytmflapajjghpmaa", sum := "591251c45a0ef888799af9958286dbf7df4542c3a61e5a99aa42831e6aa4f264", func := "twinstep/twinsteplaw13.TableClears", spec := "tableClears", unfollowed := true, recurses := true, plainKeys := false, apart := false, narrowed := true }
def TableClearsUptoSaid : Prop := tableClearsUptoRow.holds Try.pinned (OpenSpec.upto tableClearsSpec)

/-- 'twinsteplaw13.TableBorder', WHERE WHAT IT READS IS OF BULK AT MOST 1048576: true; the input reads as it did. -/
def tableBorderUptoRow : OpenClaim := { program := "ytmflapajjghpmaa", sum := "591251c45a0ef888799af9958286dbf7df4542c3a61e5a99aa42831e6aa4f264", func := "twinstep/twinsteplaw13.TableBorder", spec := "tableBorder", unfollowed := true, recurses := true, plainKeys := false, apart := false, narrowed := true }
def TableBorderUptoSaid : Prop := tableBorderUptoRow.holds Try.pinned (OpenSpec.upto tableBorderSpec)

/-- 'twinsteplaw12.PoolNumbers', WHERE WHAT IT READS IS OF BULK AT MOST 1048576: true; the input reads as it did. -/
def poolNumbersUptoRow : OpenClaim := { program := "ytmflapajjghpmaa", sum := "591251c45a0ef888799af9958286dbf7df4542c3a61e5a99aa42831e6aa4f264", func := "twinstep/twinsteplaw12.PoolNumbers", spec := "poolNumbers", unfollowed := true, recurses := true, plainKeys := false, apart := false, narrowed := true }
def PoolNumbersUptoSaid : Prop := poolNumbersUptoRow.holds Try.pinned (OpenSpec.upto poolNumbersSpec)

/-- 'twinsteplaw13.TableNone', WHERE WHAT IT READS IS OF BULK AT MOST 1048576: true; the input reads as it did. -/
def tableNoneUptoRow : OpenClaim := { program := "ytmflapajjghpmaa", sum := "591251c45a0ef888799af9958286dbf7df4542c3a61e5a99aa42831e6aa4f264", func := "twinstep/twinsteplaw13.TableNone", spec := "tableNone", unfollowed := true, recurses := true, plainKeys := false, apart := false, narrowed := true }
def TableNoneUptoSaid : Prop := tableNoneUptoRow.holds Try.pinned (OpenSpec.upto tableNoneSpec)

/-- 'twinsteplaw12.PoolPlays', WHERE WHAT IT READS IS OF BULK AT MOST 1048576: true; the input reads as it did. -/
def poolPlaysUptoRow : OpenClaim := { program := "ytmflapajjghpmaa", sum := "591251c45a0ef888799af9958286dbf7df4542c3a61e5a99aa42831e6aa4f264", func := "twinstep/twinsteplaw12.PoolPlays", spec := "poolPlays", unfollowed := true, recurses := true, plainKeys := false, apart := false, narrowed := true }
def PoolPlaysUptoSaid : Prop := poolPlaysUptoRow.holds Try.pinned (OpenSpec.upto poolPlaysSpec)

/-- 'twinsteplaw12.PoolNone', WHERE WHAT IT READS IS OF BULK AT MOST 1048576: true; the input reads as it did. -/
def poolNoneUptoRow : OpenClaim := { program := "ytmflapajjghpmaa", sum := "591251c45a0ef888799af9958286dbf7df4542c3a61e5a99aa42831e6aa4f264", func := "twinstep/twinsteplaw12.PoolNone", spec := "poolNone", unfollowed := true, recurses := true, plainKeys := false, apart := false, narrowed := true }
def PoolNoneUptoSaid : Prop := poolNoneUptoRow.holds Try.pinned (OpenSpec.upto poolNoneSpec)

/-- 'twinsteplaw14.HeapTexts', WHERE WHAT IT READS IS OF BULK AT MOST 1048576: true; the input reads as it did. -/
def heapTextsUptoRow : OpenClaim := { program := "ytmflapajjghpmaa", sum := "591251c45a0ef888799af9958286dbf7df4542c3a61e5a99aa42831e6aa4f264", func := "twinstep/twinsteplaw14.HeapTexts", spec := "heapTexts", unfollowed := true, recurses := true, plainKeys := false, apart := false, narrowed := true }
def HeapTextsUptoSaid : Prop := heapTextsUptoRow.holds Try.pinned (OpenSpec.upto heapTextsSpec)

/-- 'twinsteplaw14.HeapKeeps', WHERE WHAT IT READS IS OF BULK AT MOST 1048576: true; the input reads as it did. -/
def heapKeepsUptoRow : OpenClaim := { program := "ytmflapajjghpmaa", sum := "591251c45a0ef888799af9958286dbf7df4542c3a61e5a99aa42831e6aa4f264", func := "twinstep/twinsteplaw14.HeapKeeps", spec := "heapKeeps", unfollowed := true, recurses := true, plainKeys := false, apart := false, narrowed := true }
def HeapKeepsUptoSaid : Prop := heapKeepsUptoRow.holds Try.pinned (OpenSpec.upto heapKeepsSpec)

/-- 'twinsteplaw15.CollectNone', WHERE WHAT IT READS IS OF BULK AT MOST 1048576: true; the input reads as it did. -/
def collectNoneUptoRow : OpenClaim := { program := "ytmflapajjghpmaa", sum := "591251c45a0ef888799af9958286dbf7df4542c3a61e5a99aa42831e6aa4f264", func := "twinstep/twinsteplaw15.CollectNone", spec := "collectNone", unfollowed := true, recurses := true, plainKeys := false, apart := false, narrowed := true }
def CollectNoneUptoSaid : Prop := collectNoneUptoRow.holds Try.pinned (OpenSpec.upto collectNoneSpec)

/-- 'twinsteplaw14.HeapNone', WHERE WHAT IT READS IS OF BULK AT MOST 1048576: true; the input reads as it did. -/
def heapNoneUptoRow : OpenClaim := { program := "ytmflapajjghpmaa", sum := "591251c45a0ef888799af9958286dbf7df4542c3a61e5a99aa42831e6aa4f264", func := "twinstep/twinsteplaw14.HeapNone", spec := "heapNone", unfollowed := true, recurses := true, plainKeys := false, apart := false, narrowed := true }
def HeapNoneUptoSaid : Prop := heapNoneUptoRow.holds Try.pinned (OpenSpec.upto heapNoneSpec)

end Rows
end Go.Proofs.Ytmflapajjghpmaa
