/- The chapter of frames: its examples, and the two heaps of the law, as helps of the machine. -/
import Derived.Test.YteomehedmfemiaaProg
import Derived.Test.YteomehedmfemiaaClr
import Derived.KernelRfl
set_option linter.unusedSimpArgs false
set_option linter.unusedVariables false
set_option maxRecDepth 100000
namespace Go.Proofs.Yteomehedmfemiaa
open Go.RowKit
theorem mixed18 : Try.prog.follows .mixedOrders = true := by kernel_rfl
theorem awake18 (w : World) : Calls Try.prog 18 #[] w fun e w' => e = .returned (.bool true) ∧ Below w.heap.size w w' :=
  true_of_am (by kernel_rfl) 60 18 [] rfl (by kernel_rfl) w
def O18 : Helps := flatHelp 18 (.bool true)
theorem O18_sound : CallSound Try.prog [] (helpFn O18) := flatHelp_sound rfl awake18
/-- what both(100) answers, its heaps not looked into -/
def bothFn : List Value → AHeap → Option (Value × AHeap)
  | [.int .i64 n], H => cond (decide (n = 100)) (some (.tuple #[.pointer (some ⟨H.next, 0, none⟩), .pointer (some ⟨H.next + 1, 0, none⟩), .agg #[.int .u8 6, .int .i64 2], .bool true], ⟨H.objs, H.next + 2, H.log⟩)) none
  | _, _ => none
def bothO : Helps := fun k => cond (Nat.beq k 7) (some bothFn) none
def bothOk : Option (Value × AHeap) → Bool
  | some (.tuple ⟨[.pointer (some ⟨_, 0, none⟩), .pointer (some ⟨_, 0, none⟩), .agg ⟨[.int .u8 a, .int .i64 b]⟩, .bool c]⟩, _) => c && (decide (a = 6) && decide (b = 2))
  | _ => false
theorem bothOk_some {r : Option (Value × AHeap)} (h : bothOk r = true) : ∃ i j H, r = some (.tuple #[.pointer (some ⟨i, 0, none⟩), .pointer (some ⟨j, 0, none⟩), .agg #[.int .u8 6, .int .i64 2], .bool true], H) := by
  unfold bothOk at h
  split at h
  · simp only [Bool.and_eq_true, decide_eq_true_eq] at h
    obtain ⟨rfl, rfl, rfl⟩ := h
    exact ⟨_, _, _, rfl⟩
  · cases h
theorem both_run : bothOk (oCall Try.prog [] noHelp 60 7 [.int .i64 100] emptyH) = true := by kernel_rfl
theorem bothO_sound : CallSound Try.prog [] (helpFn bothO) := fun f args H v H' h hwf => by
  simp only [helpFn, bothO] at h
  cases hg : Nat.beq f 7 with
  | false => rw [hg] at h; cases h
  | true =>
    have hg := Nat.eq_of_beq_eq_true hg
    subst hg
    simp only [Nat.beq_refl, cond] at h
    unfold bothFn at h
    split at h
    · rename_i n
      cases hn : decide (n = 100) with
      | false => rw [hn] at h; cases h
      | true =>
        rw [hn] at h
        cases h
        have hn := of_decide_eq_true hn
        subst hn
        refine ⟨⟨fun _ _ _ => rfl, fun _ h => h, by show H.next ≤ H.next + 2; omega, fun _ _ h => h, fun h i hi => h i (Nat.le_trans (Nat.le_add_right _ 2) hi), fun _ h => .inl h⟩, fun β w args' hr hglob hargs => ?_⟩
        obtain ⟨i, j, H0, hrun⟩ := bothOk_some both_run
        have hargs' : ListVR (fun _ => none) [.int .i64 100] args' := by
          obtain ⟨hl, ha⟩ := hargs
          refine ⟨hl, fun k x y hx hy => ?_⟩
          match k, hx with
          | 0, hx =>
            cases hx
            have := ha 0 _ _ rfl hy
            cases this
            exact .int _ _
          | k + 1, hx => simp at hx
        refine (((oCall_sound (noHelp_sound _ _) mixed18 60 _ _ emptyH _ _ hrun emptyH_wf).2 _ w args' (emptyH_rel w) (fun g hg => (by cases hg)) hargs').mono ?_)
        rintro e w' ⟨v', β0, rfl, hv, hG, _⟩
        have hB : Below w.heap.size w w' := hG.below fun i s hi => (by cases hi)
        cases hv with
        | @tuple _ a' hsz hel =>
          obtain ⟨l'⟩ := a'
          match l', hsz, hel with
          | [y0, y1, y2, y3], _, hel =>
            have e0 := hel 0 _ _ rfl rfl
            have e1 := hel 1 _ _ rfl rfl
            have e2 := hel 2 _ _ rfl rfl
            have e3 := hel 3 _ _ rfl rfl
            cases e0 with
            | @ptr _ _ s0 h0 =>
              cases e1 with
              | @ptr _ _ s1 h1 =>
                cases e3
                have ag : ∀ β', VR β' (.agg #[.int .u8 6, .int .i64 2]) y2 := fun β' => by
                  have hf : flat (.agg #[.int .u8 6, .int .i64 2]) = true := rfl
                  have hy : y2 = .agg #[.int .u8 6, .int .i64 2] := (flat_vr hf β0).2 _ e2
                  rw [hy]
                  exact (flat_vr hf β').1
                have hle : β.le fun k => if k = H.next then some s0 else if k = H.next + 1 then some s1 else β k := fun k s hk => by
                  have hk2 : k < H.next := by
                    rcases Nat.lt_or_ge k H.next with hk2 | hk2
                    · exact hk2
                    · rw [hr.fresh k hk2] at hk; cases hk
                  simp only [show k ≠ H.next by omega, show k ≠ H.next + 1 by omega, if_false]
                  exact hk
                have hold : ∀ k o s, (⟨H.objs, H.next + 2, H.log⟩ : AHeap).get k = some o → (if k = H.next then some s0 else if k = H.next + 1 then some s1 else β k) = some s → H.get k = some o ∧ β k = some s := fun k o s hk hs => by
                  have hk : H.get k = some o := hk
                  have hk2 : k < H.next := by
                    rcases Nat.lt_or_ge k H.next with hk2 | hk2
                    · exact hk2
                    · rw [hwf k hk2] at hk; cases hk
                  simp only [show k ≠ H.next by omega, show k ≠ H.next + 1 by omega, if_false] at hs
                  exact ⟨hk, hs⟩
                refine ⟨_, fun k => if k = H.next then some s0 else if k = H.next + 1 then some s1 else β k, rfl, .tuple rfl fun k x y hx hy => ?_, ⟨hle, ⟨fun k o s hk hs => ?_, fun k s hs => ?_, fun k l ok ol sk sl hk hl hs ht => ?_, fun k hk => ?_⟩, hB.os, hB.tape, hB.output, hB.size, fun b hb _ => hB.block b hb, fun b _ ⟨k, o, s, h1, h2, h3, h4⟩ => ?_, fun b _ ⟨k, o, s, h1, h2, h3⟩ => ?_⟩, fun k hk => ?_⟩
                · match k, hx, hy with
                  | 0, hx, hy => cases hx; cases hy; exact .ptr (by simp)
                  | 1, hx, hy => cases hx; cases hy; exact .ptr (by simp)
                  | 2, hx, hy =>
                    cases hx; cases hy
                    exact ag _
                  | 3, hx, hy => cases hx; cases hy; exact .bool _
                  | k + 4, hx, hy => simp at hx
                · obtain ⟨a, b⟩ := hold k o s hk hs
                  exact (hr.obj k o s a b).mono hle (hB.block _ (hr.blk k s b))
                · split at hs
                  · cases hs; exact hG.rel.blk _ _ h0
                  · split at hs
                    · cases hs; exact hG.rel.blk _ _ h1
                    · exact Nat.lt_of_lt_of_le (hr.blk k s hs) hB.size
                · obtain ⟨a, b⟩ := hold k ok sk hk hs
                  obtain ⟨c, d⟩ := hold l ol sl hl ht
                  exact hr.apart k l ok ol sk sl a c b d
                · have hk : H.next + 2 ≤ k := hk
                  simp only [show k ≠ H.next by omega, show k ≠ H.next + 1 by omega, if_false]
                  exact hr.fresh k (by omega)
                · obtain ⟨a, b⟩ := hold k o s h1 h2
                  exact ⟨k, o, s, a, b, h3, h4⟩
                · obtain ⟨a, b⟩ := hold k o s h1 h2
                  exact ⟨k, o, s, a, b, h3⟩
                · have hk : k < H.next := hk
                  simp only [show k ≠ H.next by omega, show k ≠ H.next + 1 by omega, if_false]
    · cases h
def OF : Helps := orHelp O18 bothO
theorem OF_sound : CallSound Try.prog [] (helpFn OF) := orHelp_sound O18_sound bothO_sound
theorem clearF : Clear OF := fun f hf => by
  have h1 : f ≠ 18 := fun e => hf (by rw [e]; decide)
  have h2 : f ≠ 7 := fun e => hf (by rw [e]; decide)
  have e1 : Nat.beq f 18 = false := by
    cases e : Nat.beq f 18 with
    | false => rfl
    | true => exact absurd (Nat.eq_of_beq_eq_true e) h1
  have e2 : Nat.beq f 7 = false := by
    cases e : Nat.beq f 7 with
    | false => rfl
    | true => exact absurd (Nat.eq_of_beq_eq_true e) h2
  unfold OF orHelp O18 flatHelp bothO
  rw [e1, e2]; rfl
end Go.Proofs.Yteomehedmfemiaa
