/- Frame: a program of the law's, where it lies. -/
import Derived.Test.YteomehedmfemiaaRgCopyF
set_option linter.unusedSimpArgs false
set_option linter.unusedVariables false
set_option maxRecDepth 100000
namespace Go.Proofs.Yteomehedmfemiaa
open Go.RowKit
/-- a program of the law's -/
abbrev pV (kp : Nat) : Value := .agg #[.slice none 0 0, .slice (some ⟨kp, 0, none⟩) 2 3]
def PIn (o : Tr AObj) (nx kp S : Nat) : Prop := kp < nx ∧ ∃ (pr : Int) (mo : Bool) (ab : Option Addr) (cb ks : Nat) (ua : Option Addr) (un uc : Nat), o.get kp = some (.row [.int .i64 pr, .bool mo, .int .i64 (.ofNat S), .slice ab S cb, .slice none 0 0, .slice (some ⟨ks, 0, none⟩) 1 2, .slice none 0 0, .int .i64 0, .int .i64 0, .bool false, .int .i64 0, .slice none 0 0, .slice ua un uc, .slice (some ⟨ks, 0, none⟩) 1 2, .slice none 0 0, .int .i64 0] 65 8 true)
end Go.Proofs.Yteomehedmfemiaa
