/- Heap: Objects, walked in the model's world. -/
import Derived.Test.YtleafaodppcfdaaSrtVals
set_option linter.unusedSimpArgs false
set_option linter.unusedVariables false
set_option maxRecDepth 100000
namespace Go.Proofs.Ytleafaodppcfdaa
open Go.RowKit Go.Sort Go.MapKept

section
variable {O : Helps} {n : Nat}
set_option maxHeartbeats 4000000 in
theorem hright_any (hO : Clear O) {i m : Nat} {c0 c1 c3 c4 c5 c6 : Value} {e z : Nat} {own : Bool} : ∀ (o : Tr AObj) (nx : Nat) (lg : List Nat), o.get i = some (.row [c0, c1, .map (some m), c3, c4, c5, c6] e z own) → oCall Try.prog [] O (n + 1) 25 [.pointer (some ⟨i, 0, none⟩)] ⟨o, nx, lg⟩ = some (.bool true, ⟨o, nx, lg⟩) := by
  intro o nx lg h
  refine of_got ?_
  rw [y_fn (rs := [.tmp 2]) (hO _ (by decide)) Try.func25 rfl (by kernel_rfl) rfl rfl]
  repeat (first | with_reducible (first | refine n_on ?_ | refine n_seq ?_ | refine s_else ?_ | refine n_t ?_ | refine n_gt ?_ | refine d_t ?_ | refine n_nil ?_ | refine d_nil ?_ | refine n_block ?_ | refine n_skip ?_ | refine n_bon ?_ | refine n_bback ?_ | refine n_back ?_ | refine n_out ?_ | refine n_bout rfl ?_ | refine n_bfar rfl ?_ | refine n_ret ?_ | refine n_exit ?_ | refine n_label ?_ | refine n_scope ?_ | refine n_son ?_ | refine n_sback ?_) | (with_reducible (first | apply n_region | apply d_region); (simp only [JV, JU, JW, Nat.reduceAdd, Nat.zero_add]; exact rfl)) | (with_reducible (first | apply s_op | apply n_guard | apply n_cond | apply d_guard | apply d_op | apply n_fin | apply n_finb); (simp (maxDischargeDepth := 6) only [sy3.1, zY, qG, qP, qQ, qR, qS, qT, rowAt, ↓jg, ↓ji, Nat.reduceAdd, Nat.reduceEqDiff, ne_eq, jG, Nat.reduceLT, if_true, ite_true, Int.reduceLE, Int.reduceLT, Int.reduceEq, Int.reduceNeg, Int.reduceAdd, Nat.reduceSub, if_false, ite_false, fs_25.1, h, kind_pure, kind_load, kind_fresh, kind_other, jg, ji, undef]; first | exact rfl | exact ⟨rfl, rfl, rfl, rfl⟩); try (with_reducible refine calmK_in ?_; decide +kernel)))
  exact Ja (by rfl) (by rfl)
end
theorem right_walk {β : Ren} {H : AHeap} {w : World} (hr : Rel β H w) (hwf : WF H) {hb mb : Nat} {c0 c1 c3 c4 c5 c6 : Value} {T z : Nat} {own : Bool} (hbr : H.get hb = some (.row [c0, c1, .map (some mb), c3, c4, c5, c6] T z own)) {sh : Spot} (hsh : β hb = some sh) :
    Calls Try.prog 25 #[.pointer (some ⟨sh.blk, sh.shift, none⟩)] w fun e w' => e = .returned (.bool true) ∧ Goes β H w β H w' := by
  have hcall := hright_any (O := sortO) (n := 0) clear_sort H.objs H.next H.log hbr
  have hsnd := (oCall_sound sortO_sound mixed_ _ _ _ _ _ _ hcall hwf).2 β w [.pointer (some ⟨sh.blk, sh.shift, none⟩)] hr (fun g hg => by cases hg) ⟨rfl, fun j x y hx hy => by
    match j, hx, hy with
    | 0, hx, hy => cases hx; cases hy; exact .ptr (o := 0) hsh
    | j + 1, hx, _ => simp at hx⟩
  refine hsnd.mono ?_
  rintro e w' ⟨v', β', rfl, h1, h2, h3⟩
  cases h1
  exact ⟨rfl, h2.forget hr fun i o hi _ => hi⟩

set_option maxHeartbeats 2000000 in
theorem objects_walk {β : Ren} {H : AHeap} {w : World} (hr : Rel β H w) (hwf : WF H) {hb mb ck : Nat} {c0 c1 c3 c4 c5 c6 : Value} {T z : Nat} {own : Bool} (hbr : H.get hb = some (.row [c0, c1, .map (some mb), c3, c4, c5, c6] T z own)) {es : List MapEntry} (hmb : H.get mb = some (.map es ck))
    {sh : Spot} (hsh : β hb = some sh) {xs : List Int} {l : List (Int × Int)} (hx : keysA es = some xs) (hk : kindsA H mb (sortI xs) = some l) :
    Calls Try.prog 24 #[.pointer (some ⟨sh.blk, sh.shift, none⟩)] w fun e w' => ∃ v' β', e = .returned v' ∧ VR β' (resV H l) v' ∧ Goes β H w β' (resH H l) w' ∧ Ren.agree H.next β β' := by
  obtain ⟨b, q⟩ : ∃ x : Nat × Nat, x = (sh.blk, sh.shift) := ⟨_, rfl⟩
  have hK := keysA_ok hx
  have hc0 : ∀ w1, Goes β H w β H w1 → ∃ sm, β mb = some sm ∧ w1.cell? ⟨sh.blk, sh.shift + 2, none⟩ = some (.map (some sm.blk)) := fun w1 G1 => by
    obtain ⟨v', h1, h2⟩ := (G1.rel.obj _ _ _ hbr hsh).2.1 2 (.map (some mb)) rfl
    cases h2 with
    | @map _ s hs => exact ⟨s, hs, h1⟩
  obtain ⟨sm, hsm, _⟩ := hc0 w (.refl hr)
  have hc : ∀ w1, Goes β H w β H w1 → w1.cell? ⟨sh.blk, sh.shift + 2, none⟩ = some (.map (some sm.blk)) := fun w1 G1 => by
    obtain ⟨s, hs, h1⟩ := hc0 w1 G1
    rw [hsm] at hs; cases hs; exact h1
  have cR : CallsIn Fence.wide 5 Try.prog 25 #[.pointer (some ⟨sh.blk, sh.shift, none⟩)] w fun e w' => e = .returned (.bool true) ∧ Goes β H w β H w' := callsIn_wide.2 (right_walk hr hwf hbr hsh)
  have cK : ∀ m W, CallsIn Fence.wide 5 Try.prog 45 #[.map m] W fun e w' => e = .returned (.func (.func 63) #[] #[.pointer (some ⟨W.heap.size, 0, none⟩)]) ∧ w' = W.alloc (.cells #[.map m] 28) := fun m W => AnyZI.keys_in Try.keysO Fence.wide 5 trivial rfl m W
  have cC : ∀ w1, Goes β H w β H w1 → CallsIn Fence.wide 5 Try.prog 29 #[.func (.func 63) #[] #[.pointer (some ⟨w1.heap.size, 0, none⟩)]] (w1.alloc (.cells #[.map (some sm.blk)] 28)) fun e w' => ∃ (v : Value) (ss : List Int), e = .returned v ∧ ss.Perm xs ∧
      w'.ownsRow w1.heap.size 3 1 v ss.length (ss.map zv) ∧ (v = .slice none 0 0 ↔ ss = []) ∧ Below w1.heap.size w1 w' := fun w1 G1 => by
    obtain ⟨_, hB, es', h1, h2, h3⟩ := G1.rel.obj _ _ _ hmb hsm
    obtain ⟨h4, h5⟩ := keyed_world hK hB h2 h3
    exact collectedO h1 h4 h5 hK.wf hK.len
  have cV : ∀ w1, Goes β H w β H w1 → ∀ w3 v (ss : List Int), ss.Perm xs → w3.ownsRow w1.heap.size 3 1 v ss.length (ss.map zv) → (v = .slice none 0 0 ↔ ss = []) → Below w1.heap.size w1 w3 →
      CallsIn Fence.wide 5 Try.prog 28 #[.pointer (some ⟨sh.blk, sh.shift, none⟩), v] w3 fun e w' => ∃ v' β', e = .returned v' ∧ VR β' (resV H l) v' ∧ Goes β H w β' (resH H l) w' ∧ Ren.agree H.next β β' := fun w1 G1 w3 v ss hp hrow hnil hb3 => callsIn_wide.2 <| by
    refine (values_world G1.rel hwf hbr hmb hsh hk hp hK.len hb3 hrow hnil).mono ?_
    rintro e w' ⟨v', β', h1, h2, h3, h4⟩
    exact ⟨v', β', h1, h2, G1.trans h3, h4⟩
  have hf1 : Fence.wide.fn 25 := trivial
  have hf2 : Fence.wide.fn 45 := trivial
  have hf3 : Fence.wide.fn 29 := trivial
  have hf4 : Fence.wide.fn 28 := trivial
  clear hc0 hx hk
  generalize sh.blk = hB at *
  generalize sh.shift = hQ at *
  generalize sm.blk = hM at *
  refine (callsIn_wide (n := 6)).1 ?_
  refine callsIn_of_wp Try.func24 rfl trivial ?_ rfl
  simp only [Try.ntmps24, List.size_toArray, List.length_cons, List.length_nil, Nat.reduceAdd, Nat.reduceSub, Array.replicate_succ, Array.replicate_zero, List.push_toArray, List.append_toArray, List.nil_append, List.cons_append]
  gi_wp2_with (first
    | (gi_at_call 25; refine cR.mono ?_; rintro e w1 ⟨rfl, G1⟩; have hcell := hc w1 G1)
    | (gi_at_call 45; refine (cK _ _).mono ?_; rintro e w2 ⟨rfl, rfl⟩)
    | (gi_at_call 29; refine (cC _ (by assumption)).mono ?_; rintro e w3 ⟨v, ss, rfl, hp, hrow, hnil, hb3⟩)
    | (gi_at_call 28; refine (cV _ (by assumption) _ _ _ (by assumption) (by assumption) (by assumption) (by assumption)).mono ?_; rintro e w4 ⟨v', β', rfl, hv, hG, hA⟩))
  go_ret
  exact ⟨v', β', rfl, hv, hG, hA⟩
end Go.Proofs.Ytleafaodppcfdaa
