/- Whatever the input of HeapKeeps, the call returns true and every argument reads behind it as it read before. -/
import Derived.Test.YthnlkahgmbadoaaRows
import Derived.WalkKit
import Derived.ProofKit
import Derived.OpenShut
import Derived.ShutString
import Derived.Carry
import Derived.Lib.SmallJoins
import Derived.Test.YthnlkahgmbadoaaRowEnd
import Derived.Test.YthnlkahgmbadoaaRowStruct
import Derived.Test.YthnlkahgmbadoaaHkLaw8
namespace Go.Proofs.Ythnlkahgmbadoaa.heapKeeps
open Go.ChangeShapes Go.WideShapes Go.ChangeAt Go.RowKit Go.Joins
open Go.ChangeMaps (open_string shut_string)
set_option linter.unusedSimpArgs false
set_option linter.unusedVariables false

theorem own : ownKnob Try.prog.godebug = none := by kernel_rfl
theorem laid : laidOutB Try.prog = true := by kernel_rfl

set_option maxRecDepth 100000 in
theorem lifted (os : Os) (started : os.Started) (H : Type) (enc : TypeId × Value → H) :
    ReturnsInHanded {} Try.checked os 4 .any (Rows.heapKeepsSpec.pre6 enc Try.prog Try.f4 Rows.heapKeepsRow.domain false) (Rows.heapKeepsSpec.post enc Try.prog Try.f4 false true false false) := by
  refine returnsInHanded_of_change (C := Try.checked) own started (by kernel_rfl) Try.func4
    (ChangeSpec.witness6 (enc := enc) (C := Try.checked) false ⟨#[], #[.slice none 0 0], []⟩ 8 (by kernel_rfl) (by kernel_rfl) (by kernel_rfl) (by kernel_rfl)) ?_
  intro W base args ds gs before hval0 hW hcnd _
  have hval : ∀ (j : Nat) t v, Try.f4.params[j]? = some t → args[j]? = some v → Value.okWide Try.prog W .any base t v := hval0
  have hW' := hW
  obtain ⟨p, q, hA0, hV, rfl, hfz, hnd⟩ := hW
  have hA : DataW.TrodAll enc Try.prog W 0 (fun _ => true) true Try.f4.params.toList args.toList ds p := hA0
  rw [Try.params4] at hA hval
  obtain ⟨v0, vs0, d0, ds0, p0, q0, hargs, rfl, rfl, h0, r0⟩ := trodAll_cons hA
  obtain ⟨rfl, rfl, rfl⟩ := trodAll_nil r0
  obtain rfl : args = #[v0] := by cases args; simp_all
  obtain ⟨rfl, rfl⟩ := trodVars_none hV
  have k0 := h0
  have hlt0 : ∀ x ∈ p0, x.block < W.heap.size := fun x hx => by simpa using hW'.lt x (by simp [hx])
  obtain ⟨a0, len0, cap0, zs0, rfl, hl0, hz0, hw0, hr0⟩ := mix_row (ks := [SK.i .i64, SK.i .i64, SK.i .i64, SK.i .i64, SK.i .i64, SK.s]) Try.underlying41 Try.underlying44 (by kernel_rfl) (by kernel_rfl) rfl (fun j f hf => by
    rcases j with _ | _ | _ | _ | _ | _ | j
    · simp at hf; subst hf; exact ⟨_, rfl, Try.underlying3⟩
    · simp at hf; subst hf; exact ⟨_, rfl, Try.underlying3⟩
    · simp at hf; subst hf; exact ⟨_, rfl, Try.underlying3⟩
    · simp at hf; subst hf; exact ⟨_, rfl, Try.underlying3⟩
    · simp at hf; subst hf; exact ⟨_, rfl, Try.underlying3⟩
    · simp at hf; subst hf; exact ⟨_, rfl, Try.underlying9⟩
    · simp at hf) h0 (hval 0 41 v0 rfl rfl)
  clear hA0 hval0
  simp only [List.nil_append, List.append_nil] at hW'
  refine (keeps_walk a0 len0 cap0 zs0 hl0 hz0 hw0 W hr0).mono fun e W' ⟨he, hg⟩ => ?_
  subst he
  have hX := (trodAll_cons_mk (Below.trod laid (by kernel_rfl) (of_decide_eq_true (by kernel_rfl)) k0 hg hlt0) trodAll_mk0)
  simp only [List.nil_append, List.append_nil] at hX
  exact ⟨_, rfl, post_law hW' hg (trodAll_cons_mk (shut_bool Try.underlying4 _) trodAll_mk0) hX rfl⟩

theorem over : Rows.heapKeepsRow.holds Try.pinned (OpenSpec.ofChange Rows.heapKeepsSpec) :=
  OpenClaim.holds_of_wide 4 Try.f4 rfl rfl rfl rfl rfl rfl rfl ⟨rfl, rfl, rfl, rfl, rfl⟩ rfl rfl rfl rfl rfl (by kernel_rfl) Try.func4 (by kernel_rfl)
    (of_decide_eq_true (by kernel_rfl)) (by unfold Func.isWrapper; first | (rw [if_pos (by decide +kernel)]; kernel_rfl) | (rw [if_neg (by decide +kernel)]; exact ⟨rfl, rfl⟩))
    (fun os started H enc _ => lifted os started H enc)

/-- The statement. -/
theorem proved : Rows.HeapKeepsSaid :=
  over
end Go.Proofs.Ythnlkahgmbadoaa.heapKeeps
