/- Heap: Objects as a help of the machine. -/
import Derived.Test.YtleafaodppcfdaaSrtObj
set_option linter.unusedSimpArgs false
set_option linter.unusedVariables false
set_option maxRecDepth 100000
namespace Go.Proofs.Ytleafaodppcfdaa
open Go.RowKit Go.Sort Go.MapKept

noncomputable def objsFn : List Value → AHeap → Option (Value × AHeap)
  | [.pointer (some ⟨hb, 0, none⟩)], H => match H.get hb with
    | some (.row [_, _, .map (some mb), _, _, _, _] _ _ _) => match H.get mb with
      | some (.map es ck) => match keysA es with
        | some xs => (kindsA H mb (sortI xs)).map fun l => (resV H l, resH H l)
        | none => none
      | _ => none
    | _ => none
  | _, _ => none
theorem resH_log (H : AHeap) (l : List (Int × Int)) : LogLe H.next H (resH H l) := by
  cases l with
  | nil => exact .refl _ _
  | cons p l =>
    refine ⟨fun i hi _ => ?_, fun _ h => h, Nat.le_succ _, fun i hi h => ?_, fun hw i hi => ?_, fun i hi => .inl hi⟩
    · exact (add_get H _ i).trans (if_neg (by omega))
    · exact ((add_get H _ i).trans (if_neg (by omega))).trans h
    · have hi : H.next + 1 ≤ i := hi
      exact ((add_get H _ i).trans (if_neg (by omega))).trans (hw i (by omega))
theorem resH_old {H : AHeap} {i : Nat} (h : i < H.next) (l : List (Int × Int)) : (resH H l).get i = H.get i := by
  cases l with
  | nil => rfl
  | cons p l => exact (add_get H _ i).trans (if_neg (by omega))
noncomputable def oneHelp (f : FuncId) (g : List Value → AHeap → Option (Value × AHeap)) : Helps := fun k => cond (Nat.beq k f) (some g) none
theorem objs_sound : CallSound Try.prog [] (helpFn (oneHelp 24 objsFn)) := fun f args H v H' h hwf => by
  simp only [helpFn, oneHelp] at h
  cases hg : Nat.beq f 24 with
  | false => rw [hg] at h; cases h
  | true =>
    have hg := Nat.eq_of_beq_eq_true hg
    subst hg
    simp only [Nat.beq_refl, cond] at h
    unfold objsFn at h
    split at h
    · split at h
      · rename_i hbr
        split at h
        · rename_i hmb
          split at h
          · rename_i xs hx
            obtain ⟨l, hk, he⟩ := Option.map_eq_some_iff.1 h
            cases he
            refine ⟨resH_log H l, fun β w args' hr hglob hargs => ?_⟩
            obtain ⟨hl, ha⟩ := hargs
            match args', hl, ha with
            | [y], _, ha =>
              have h0 := ha 0 _ _ rfl rfl
              cases h0 with
              | @ptr _ _ sh hsh => exact objects_walk hr hwf hbr hmb hsh hx hk
          · cases h
        · cases h
      · cases h
    · cases h
theorem true_of_h {P : Program} {O : Helps} (ho : CallSound P [] (helpFn O)) (hm : P.follows .mixedOrders = true) (n : Nat) (f : FuncId) (args : List Value) (hf : args.all flat = true) (h : okTrue (oCall P [] O n f args emptyH) = true) (w : World) : Calls P f args.toArray w fun e w' => e = .returned (.bool true) ∧ Below w.heap.size w w' := by
  unfold okTrue at h
  split at h
  · rename_i H' hr
    obtain ⟨_, hs⟩ := oCall_sound ho hm n f args emptyH (.bool true) H' hr emptyH_wf
    refine (hs _ w args (emptyH_rel w) (fun g hg => (by cases hg)) ⟨rfl, fun j x y hx hy => ?_⟩).mono fun e w' hh => ?_
    · rw [hx] at hy; cases hy
      exact (flat_vr (List.all_eq_true.1 hf x (List.mem_of_getElem? hx)) _).1
    · obtain ⟨v', β', rfl, h1, h2, _⟩ := hh
      cases h1
      exact ⟨rfl, h2.below (fun i s hi => (by cases hi))⟩
  · cases h
end Go.Proofs.Ytleafaodppcfdaa
