/- Whatever the input of FrameRights (of bulk at most 1048576), the call returns true and every argument reads behind it as it read before. -/
import Derived.Test.YteomehedmfemiaaRows
import Derived.WalkKit
import Derived.ProofKit
import Derived.OpenShut
import Derived.ShutString
import Derived.Carry
import Derived.Lib.SmallJoins
import Derived.JoinedCond
import Derived.Test.YteomehedmfemiaaRowEnd
import Derived.Test.YteomehedmfemiaaRowFR
import Derived.Test.YteomehedmfemiaaBulk
namespace Go.Proofs.Yteomehedmfemiaa.frameRights
open Go.ChangeShapes Go.WideShapes Go.ChangeAt Go.RowKit Go.Joins
set_option linter.unusedSimpArgs false
set_option linter.unusedVariables false
theorem own : ownKnob Try.prog.godebug = none := by kernel_rfl
theorem laid : laidOutB Try.prog = true := by kernel_rfl
theorem short {H : Type} {ds : List (DataW H)} (hk : Rows.uptoSmall H ds = true) {parts : List (DataW H)} (hm : DataW.agg parts ∈ ds) {n : Nat} (h : InParts parts n) : n ≤ 1048576 := by
  have h0 : Rows.uptoBulkAll ds ≤ 1048576 := of_decide_eq_true hk
  rcases h with rfl | ⟨el, sp, hm2, hle⟩
  · omega
  · have h1 := bulks.part_le hm
    have h2 : Rows.uptoBulk (DataW.agg parts) = Rows.uptoBulkAll parts + 1 := by simp only [Rows.uptoBulk]
    have h3 := bulks.part_le hm2
    have h4 := bulks.slice_le el sp
    omega
set_option maxRecDepth 100000 in
theorem lifted (os : Os) (started : os.Started) (H : Type) (enc : TypeId × Value → H) (F : Stop.Interp) :
    ReturnsInHanded {} Try.checked os 3 .any ((Rows.OpenSpec.upto Rows.frameRightsSpec).pre6 enc Try.prog Try.f3 Rows.frameRightsUptoRow.domain false) (((Rows.OpenSpec.upto Rows.frameRightsSpec).at F).post enc Try.prog Try.f3 false true false false) := by
  refine returnsInHanded_of_cond (C := Try.checked) (s := Rows.OpenSpec.upto Rows.frameRightsSpec) (k := Rows.uptoSmall) rfl own started (by kernel_rfl) Try.func3
    (OpenSpec.witness (enc := enc) (C := Try.checked) (s := Rows.OpenSpec.upto Rows.frameRightsSpec) (k := Rows.uptoSmall) rfl false ⟨#[], #[.agg #[.int .i64 0, .int .i64 0, .int .i64 0, .bool false, .slice none 0 0], .agg #[.int .u8 0, .int .i64 0, .int .i64 0, .int .i64 0, .slice none 0 0, .slice none 0 0, .slice none 0 0, .slice none 0 0, .int .i64 0, .slice none 0 0, .bool false, .int .i64 0], .int .i64 0], []⟩ 8 (by kernel_rfl) (by kernel_rfl) (by kernel_rfl)
      (x := ([.agg [.lit (.int .i64 0), .lit (.int .i64 0), .lit (.int .i64 0), .lit (.bool false), .nil], .agg [.lit (.int .u8 0), .lit (.int .i64 0), .lit (.int .i64 0), .lit (.int .i64 0), .nil, .nil, .nil, .nil, .lit (.int .i64 0), .nil, .lit (.bool false), .lit (.int .i64 0)], .lit (.int .i64 0)], [], [])) (by kernel_rfl) rfl (by kernel_rfl)) ?_
  intro W base args ds gs before hval0 hW _ hk _
  have hval : ∀ (j : Nat) t v, Try.f3.params[j]? = some t → args[j]? = some v → Value.okWide Try.prog W .any base t v := hval0
  have hW' := hW
  obtain ⟨p, q, hA0, hV, rfl, hfz, hnd⟩ := hW
  have hA : DataW.TrodAll enc Try.prog W 0 (fun _ => true) true Try.f3.params.toList args.toList ds p := hA0
  rw [Try.params3] at hA hval
  obtain ⟨v0, vs0, d0, ds0, p0, q0, hargs, rfl, rfl, h0, r0⟩ := trodAll_cons hA
  obtain ⟨v1, vs1, d1, ds1, p1, q1, rfl, rfl, rfl, h1, r1⟩ := trodAll_cons r0
  obtain ⟨v2, vs2, d2, ds2, p2, q2, rfl, rfl, rfl, h2, r2⟩ := trodAll_cons r1
  obtain ⟨rfl, rfl, rfl⟩ := trodAll_nil r2
  obtain rfl : args = #[v0, v1, v2] := by cases args; simp_all
  obtain ⟨rfl, rfl⟩ := trodVars_none hV
  have k0 := h0
  have hlt0 : ∀ x ∈ p0, x.block < W.heap.size := fun x hx => by simpa using hW'.lt x (by simp [hx])
  have k1 := h1
  have hlt1 : ∀ x ∈ p1, x.block < W.heap.size := fun x hx => by simpa using hW'.lt x (by simp [hx])
  have k2 := h2
  have hlt2 : ∀ x ∈ p2, x.block < W.heap.size := fun x hx => by simpa using hW'.lt x (by simp [hx])
  obtain ⟨pa, sl, b, mo, ua, un, uc, ul, pt0, rfl, rfl, eu, hu, iu⟩ := shape_open h0 (hval 0 24 v0 rfl rfl)
  obtain ⟨en, pr, cl, st, pc, wa, wt, sa, da, wa', va, ra, sn, sc, dn, dc, wn, wc, vn, vc, rn, rc, ls, ld, lv, lr, lw, pt1, rfl, rfl, ⟨es, hs, is⟩, ⟨ed, hd, id⟩, ⟨ew, hw, iw⟩, ⟨ev, hv, iv⟩, ⟨er, hr, ir⟩⟩ := frame_open h1 (hval 1 29 v1 rfl rfl)
  obtain ⟨want, rfl, rfl, rfl, w2⟩ := open_int Try.underlying3 (hval 2 3 v2 rfl rfl) h2
  clear hA0 hval0
  simp only [List.nil_append, List.append_nil] at hW' hk
  have s0 := fun {n : Nat} (h : InParts pt0 n) => short hk (by simp) h
  have s1 := fun {n : Nat} (h : InParts pt1 n) => short hk (by simp) h
  refine (frights_calls W pa sl b mo en pr cl st pc wa wt want hu hs hd hw hv hr eu es ed ew ev er (s0 iu) (s1 is) (s1 id) (s1 iw) (s1 iv) (s1 ir)).mono fun e W' ⟨he, hg⟩ => ?_
  subst he
  have hX := (trodAll_cons_mk (Below.trod laid (by kernel_rfl) (of_decide_eq_true (by kernel_rfl)) k0 hg hlt0) (trodAll_cons_mk (Below.trod laid (by kernel_rfl) (of_decide_eq_true (by kernel_rfl)) k1 hg hlt1) (trodAll_cons_mk (Below.trod laid (by kernel_rfl) (of_decide_eq_true (by kernel_rfl)) k2 hg hlt2) trodAll_mk0)))
  simp only [List.nil_append, List.append_nil] at hX
  exact ⟨_, rfl, post_law hW' hg (trodAll_cons_mk (shut_bool Try.underlying4 _) trodAll_mk0) hX rfl⟩
/-- The statement. -/
theorem proved : Rows.FrameRightsUptoSaid :=
  OpenClaim.holds_of_cond 3 Try.f3 rfl rfl rfl rfl rfl rfl rfl ⟨rfl, rfl, rfl, rfl, rfl⟩ rfl rfl rfl rfl rfl (by kernel_rfl) Try.func3 (by kernel_rfl)
    (of_decide_eq_true (by kernel_rfl)) (by unfold Func.isWrapper; first | (rw [if_pos (by decide +kernel)]; kernel_rfl) | (rw [if_neg (by decide +kernel)]; exact ⟨rfl, rfl⟩))
    (fun os started H enc _ F => lifted os started H enc F)
end Go.Proofs.Yteomehedmfemiaa.frameRights
