/- Picked numbers. -/
import Derived.Test.YthnlkahgmbadoaaAmGo
import Derived.Test.YthnlkahgmbadoaaClr
namespace Go.Proofs.Ythnlkahgmbadoaa
open Go.RowKit
set_option linter.unusedSimpArgs false
set_option linter.unusedVariables false

def pickI (x n : Int) : Int := if x.tmod n < 0 then x.tmod n + n else x.tmod n
theorem pickI_in (x : Int) {n : Int} (hn : 0 < n) : 0 ≤ pickI x n ∧ pickI x n < n := by
  unfold pickI
  have h1 := Int.tmod_lt_of_pos x hn
  have h2 : -n < x.tmod n := by
    have := Int.tmod_lt_of_pos (-x) hn
    rw [Int.neg_tmod] at this; omega
  split <;> omega
section
variable {O : Helps} {n : Nat} {o : Tr AObj} {nx : Nat} {lg : List Nat}
theorem pick_ok (hO : Clear O) (x k : Int) (hk : 0 < k) (hk2 : k < 1000000000) :
    oCall Try.prog [] O (n + 1) 10 [.int .i64 x, .int .i64 k] ⟨o, nx, lg⟩ = some (.int .i64 (pickI x k), ⟨o, nx, lg⟩) := by
  refine of_got ?_
  rw [y_fn (rs := [.tmp 4]) (hO _ (by decide)) Try.func10 rfl (by kernel_rfl) rfl rfl]
  have k1 : decide (k < 1) = false := decide_eq_false (by omega)
  have k0 : k ≠ 0 := by omega
  have h1 := Int.tmod_lt_of_pos x hk
  have h2 : -k < x.tmod k := by
    have := Int.tmod_lt_of_pos (-x) hk
    rw [Int.neg_tmod] at this; omega
  unfold pickI
  by_cases h : x.tmod k < 0
  · have hw : IntKind.i64.wrap (x.tmod k + k) = x.tmod k + k := IntWalk.i64_in _ (by omega)
    simp (maxDischargeDepth := 6) only [sy3.1, zY, qG, qP, qQ, qR, qS, qT, rowAt, ↓jg, ↓ji, Nat.reduceAdd, Nat.reduceEqDiff, ne_eq, jG, Nat.reduceLT, if_true, ite_true, Int.reduceLE, Int.reduceLT, Int.reduceEq, Int.reduceNeg, Int.reduceAdd, Nat.reduceSub, if_false, ite_false, id, k1, b_rem k0, decide_eq_true h, hw]
    simp only [h, if_true]
    try exact Ja (by rfl) (by rfl)
  · simp (maxDischargeDepth := 6) only [sy3.1, zY, qG, qP, qQ, qR, qS, qT, rowAt, ↓jg, ↓ji, Nat.reduceAdd, Nat.reduceEqDiff, ne_eq, jG, Nat.reduceLT, if_true, ite_true, Int.reduceLE, Int.reduceLT, Int.reduceEq, Int.reduceNeg, Int.reduceAdd, Nat.reduceSub, if_false, ite_false, id, k1, b_rem k0, decide_eq_false h]
    simp only [h, if_false]
    try exact Ja (by rfl) (by rfl)
end
end Go.Proofs.Ythnlkahgmbadoaa
