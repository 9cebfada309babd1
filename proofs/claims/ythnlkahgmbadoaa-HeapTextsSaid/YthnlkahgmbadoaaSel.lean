/- Which part of a code. No program in sight. -/
import Derived.Test.YthnlkahgmbadoaaAmC
namespace Go.Proofs.Ythnlkahgmbadoaa
open Go.RowKit
/-! ### which part of the code -/
def sqL : Code → Code
  | .seq a _ => a
  | c => c
def sqR : Code → Code
  | .seq _ b => b
  | c => c
def blkIn : Code → Code
  | .block _ b => b
  | c => c
def lpIn : Code → Code
  | .loop b => b
  | c => c
def cdT : Code → Code
  | .cond _ a _ => a
  | c => c
def cdF : Code → Code
  | .cond _ _ b => b
  | c => c
def bodyOf (f : Func) : Code := match f.body with
  | some c => c
  | none => .skip
end Go.Proofs.Ythnlkahgmbadoaa
