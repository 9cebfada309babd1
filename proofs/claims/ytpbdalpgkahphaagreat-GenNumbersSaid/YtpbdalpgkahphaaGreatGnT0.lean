/- GenNumbers: the function texts, its code in pieces. -/
import Derived.Test.YtpbdalpgkahphaaGreatGnL
set_option linter.unusedSimpArgs false
set_option linter.unusedVariables false
namespace Go.Proofs.YtpbdalpgkahphaaGreat
open Go.RowKit
noncomputable def tC : Code := yBody Tryz.f8
noncomputable def tL : Code := yLp (yBl (ySR (ySL (ySR (ySR (ySR tC))))))
theorem tC_is : tC = .seq (ySL tC) (.seq (ySL (ySR tC)) (.seq (ySL (ySR (ySR tC))) (.seq (.seq (ySL (ySL (ySR (ySR (ySR tC))))) (.block 0 (.loop tL))) (.seq (ySL (ySR (ySR (ySR (ySR tC))))) .ret)))) := by kernel_rfl
noncomputable def tB : Code := yBl (ySL (ySR (ySR tL)))
theorem tL_is : tL = .seq (ySL tL) (.seq (ySL (ySR tL)) (.seq (.block 1 (.seq (ySL tB) (.seq (ySL (ySR tB)) (ySR (ySR tB))))) (ySR (ySR (ySR tL))))) := by kernel_rfl
noncomputable def rdG (c : Code) (k : E8) (H : AHeap) : KW := (readyCode Tryz.prog okG c).c (runG noHelp) 400 k H
/-- up to the loop -/
noncomputable def tHead : KW := kThn (rdG (ySL tC) kU3 emptyH) fun k H => kThn (rdG (ySL (ySR tC)) k H) fun k H => kThn (rdG (ySL (ySR (ySR tC))) k H) fun k H => rdG (ySL (ySL (ySR (ySR (ySR tC))))) k H
/-- a round: the text's program -/
noncomputable def tPre (k : E8) (H : AHeap) : KW := kThn (rdG (ySL tL) k H) fun k H => kThn (rdG (ySL (ySR tL)) k H) fun k H => kThn (rdG (ySL tB) k H) fun k H => rdG (ySL (ySR tB)) k H
/-- and its statements -/
noncomputable def tPost (k : E8) (H : AHeap) : KW := kThn (rdG (ySR (ySR tB)) k H) fun k H => rdG (ySR (ySR (ySR tL))) k H
end Go.Proofs.YtpbdalpgkahphaaGreat
