/- Heap: Dirty as a help of the machine, beside Objects. -/
import Derived.Test.YtleafaodppcfdaaSrtDirty
import Derived.Test.YtleafaodppcfdaaSrtHelp
set_option linter.unusedSimpArgs false
set_option linter.unusedVariables false
set_option maxRecDepth 100000
namespace Go.Proofs.Ytleafaodppcfdaa
open Go.RowKit Go.Sort Go.MapKept

noncomputable def dirtyFn : List Value → AHeap → Option (Value × AHeap)
  | [.pointer (some ⟨hb, 0, none⟩)], H => match H.get hb with
    | some (.row [_, _, .map (some mb), _, _, _, .map (some mn)] _ _ _) => match H.get mb, H.get mn with
      | some (.map _ _), some (.map es ck) => match keysA es with
        | some xs => (kindsA H mb (sortI xs)).map fun l => (resV H l, (resH H l).upd mn (some (.map [] ck)))
        | none => none
      | _, _ => none
    | _ => none
  | _, _ => none
theorem dirty_sound : CallSound Try.prog [] (helpFn (oneHelp 17 dirtyFn)) := fun f args H v H' h hwf => by
  simp only [helpFn, oneHelp] at h
  cases hg : Nat.beq f 17 with
  | false => rw [hg] at h; cases h
  | true =>
    have hg := Nat.eq_of_beq_eq_true hg
    subst hg
    simp only [Nat.beq_refl, cond] at h
    unfold dirtyFn at h
    split at h
    · split at h
      · rename_i hbr
        split at h
        · rename_i hmb hmn
          split at h
          · rename_i xs hx
            obtain ⟨l, hk, he⟩ := Option.map_eq_some_iff.1 h
            cases he
            have hlt := wf_lt hwf hmn
            refine ⟨(resH_log H l).trans (logLe_upd ((resH_old hlt l).trans hmn) hlt _), fun β w args' hr hglob hargs => ?_⟩
            obtain ⟨hl, ha⟩ := hargs
            match args', hl, ha with
            | [y], _, ha =>
              have h0 := ha 0 _ _ rfl rfl
              cases h0 with
              | @ptr _ _ sh hsh => exact dirty_walk hr hwf hbr hmb hmn (fun e => by rw [e, hmn] at hbr; cases hbr) hsh hx hk
          · cases h
        · cases h
      · cases h
    · cases h
/-- both -/
noncomputable def heapO : Helps := orHelp (oneHelp 24 objsFn) (oneHelp 17 dirtyFn)
theorem heapO_sound : CallSound Try.prog [] (helpFn heapO) := orHelp_sound objs_sound dirty_sound
end Go.Proofs.Ytleafaodppcfdaa
