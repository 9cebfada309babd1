/- Heap: Dirty, walked in the model's world. -/
import Derived.Test.YtckgdalbdeeimaaSrtObj
set_option linter.unusedSimpArgs false
set_option linter.unusedVariables false
set_option maxRecDepth 100000
namespace Go.Proofs.Ytckgdalbdeeimaa
open Go.RowKit Go.Sort Go.MapKept

set_option maxHeartbeats 2000000 in
theorem dirty_walk {β : Ren} {H : AHeap} {w : World} (hr : Rel β H w) (hwf : WF H) {hb mb mn cb ck : Nat} {c0 c1 c3 c4 c5 : Value} {T z : Nat} {own : Bool} (hbr : H.get hb = some (.row [c0, c1, .map (some mb), c3, c4, c5, .map (some mn)] T z own)) {eb es : List MapEntry} (hmb : H.get mb = some (.map eb cb)) (hmn : H.get mn = some (.map es ck)) (hne : hb ≠ mn)
    {sh : Spot} (hsh : β hb = some sh) {xs : List Int} {l : List (Int × Int)} (hx : keysA es ck = some xs) (hk : kindsA H mb (sortI xs) = some l) :
    Calls Try.prog 53 #[.pointer (some ⟨sh.blk, sh.shift, none⟩)] w fun e w' => ∃ v' β', e = .returned v' ∧ VR β' (resV H l) v' ∧ Goes β H w β' ((resH H l).upd mn (some (.map [] ck))) w' ∧ Ren.agree H.next β β' := by
  obtain ⟨b, q⟩ : ∃ x : Nat × Nat, x = (sh.blk, sh.shift) := ⟨_, rfl⟩
  have hK := keysA_ok hx
  have hc0 : ∀ w1, Goes β H w β H w1 → ∃ sm, β mn = some sm ∧ w1.cell? ⟨sh.blk, sh.shift + 6, none⟩ = some (.map (some sm.blk)) := fun w1 G1 => by
    obtain ⟨v', h1, h2⟩ := (G1.rel.obj _ _ _ hbr hsh).2.1 6 (.map (some mn)) rfl
    cases h2 with
    | @map _ s hs => exact ⟨s, hs, h1⟩
  obtain ⟨sm, hsm, _⟩ := hc0 w (.refl hr)
  have hc : ∀ w1, Goes β H w β H w1 → w1.cell? ⟨sh.blk, sh.shift + 6, none⟩ = some (.map (some sm.blk)) := fun w1 G1 => by
    obtain ⟨s, hs, h1⟩ := hc0 w1 G1
    rw [hsm] at hs; cases hs; exact h1
  have cR : CallsIn Fence.wide 5 Try.prog 31 #[.pointer (some ⟨sh.blk, sh.shift, none⟩)] w fun e w' => e = .returned (.bool true) ∧ Goes β H w β H w' := callsIn_wide.2 (right_walk hr hwf hbr hsh)
  have cK : ∀ m W, CallsIn Fence.wide 5 Try.prog 73 #[.map m] W fun e w' => e = .returned (.func (.func 79) #[] #[.pointer (some ⟨W.heap.size, 0, none⟩)]) ∧ w' = W.alloc (.cells #[.map m] 63) := fun m W => AnyZI.keys_in Try.keysN Fence.wide 5 trivial rfl m W
  have cC : ∀ w1, Goes β H w β H w1 → CallsIn Fence.wide 5 Try.prog 36 #[.func (.func 79) #[] #[.pointer (some ⟨w1.heap.size, 0, none⟩)]] (w1.alloc (.cells #[.map (some sm.blk)] 63)) fun e w' => ∃ (v : Value) (ss : List Int), e = .returned v ∧ ss.Perm xs ∧
      w'.ownsRow w1.heap.size 3 1 v ss.length (ss.map zv) ∧ (v = .slice none 0 0 ↔ ss = []) ∧ Below w1.heap.size w1 w' := fun w1 G1 => by
    obtain ⟨_, es', h1, h2, h3⟩ := G1.rel.obj _ _ _ hmn hsm
    obtain ⟨h4, h5⟩ := keyed_world hK h2 h3
    exact collectedN h1 h4 h5 hK.wf hK.len
  have cV : ∀ w1, Goes β H w β H w1 → ∀ w3 v (ss : List Int), ss.Perm xs → w3.ownsRow w1.heap.size 3 1 v ss.length (ss.map zv) → (v = .slice none 0 0 ↔ ss = []) → Below w1.heap.size w1 w3 →
      CallsIn Fence.wide 5 Try.prog 35 #[.pointer (some ⟨sh.blk, sh.shift, none⟩), v] w3 fun e w' => ∃ v' β', e = .returned v' ∧ VR β' (resV H l) v' ∧ Goes β H w β' (resH H l) w' ∧ Ren.agree H.next β β' := fun w1 G1 w3 v ss hp hrow hnil hb3 => callsIn_wide.2 <| by
    refine (values_world G1.rel hwf hbr hmb hsh hk hp hK.len hb3 hrow hnil).mono ?_
    rintro e w' ⟨v', β', h1, h2, h3, h4⟩
    exact ⟨v', β', h1, h2, G1.trans h3, h4⟩
  have hf1 : Fence.wide.fn 31 := trivial
  have hf2 : Fence.wide.fn 73 := trivial
  have hf3 : Fence.wide.fn 36 := trivial
  have hf4 : Fence.wide.fn 35 := trivial
  have hN : ∀ w4 β', Goes β H w β' (resH H l) w4 → w4.cell? ⟨sh.blk, sh.shift + 6, none⟩ = some (.map (some sm.blk)) ∧ ∃ es4, w4.heap[sm.blk]? = some (.map es4 ck) := fun w4 β' G => by
    have h1 : (resH H l).get hb = H.get hb := by
      have := wf_lt hwf hbr
      cases l with
      | nil => rfl
      | cons p l => exact (add_get H _ hb).trans (if_neg (by omega))
    have h2 : (resH H l).get mn = H.get mn := by
      have := wf_lt hwf hmn
      cases l with
      | nil => rfl
      | cons p l => exact (add_get H _ mn).trans (if_neg (by omega))
    refine ⟨?_, ?_⟩
    · obtain ⟨v', h3, h4⟩ := (G.rel.obj _ _ _ (h1.trans hbr) (G.le _ _ hsh)).2.1 6 (.map (some mn)) rfl
      cases h4 with
      | @map _ s hs => rw [G.le _ _ hsm] at hs; cases hs; exact h3
    · obtain ⟨_, es', h3, _⟩ := G.rel.obj _ _ _ (h2.trans hmn) (G.le _ _ hsm)
      exact ⟨es', h3⟩
  have hZ : ∀ w4 β', Goes β H w β' (resH H l) w4 → Goes β H w β' ((resH H l).upd mn (some (.map [] ck))) { w4 with heap := w4.heap.setIfInBounds sm.blk (.map #[] ck) } := fun w4 β' G => by
    have h2 : (resH H l).get mn = H.get mn := by
      have := wf_lt hwf hmn
      cases l with
      | nil => rfl
      | cons p l => exact (add_get H _ mn).trans (if_neg (by omega))
    have hso := (G.rel.obj _ _ _ (h2.trans hmn) (G.le _ _ hsm)).1
    exact G.trans (Goes.setObj G.rel (h2.trans hmn) (G.le _ _ hsm) hso (.map #[] ck) (o' := .map [] ck) (fun w' hw => ⟨hso, _, hw, rfl, fun j e e' a => by simp at a⟩))
  have hU : ∀ ty w4 es4, w4.heap[sm.blk]? = some (.map es4 ck) → Sem.run Try.prog (Builtin.clear_ #[63] ty #[.map (some sm.blk)]) w4 = .ok (.tuple #[]) { w4 with heap := w4.heap.setIfInBounds sm.blk (.map #[] ck) } := fun ty w4 es4 h1 => by
    have hget := run_getObj' (P := Try.prog) h1 (by intro c e f hh; cases hh)
    have hset : ∀ O', (setObj sm.blk O').run Try.prog w4 = .ok () { w4 with heap := w4.heap.setIfInBounds sm.blk O' } := fun O' => run_setObj' (P := Try.prog) h1 (by intro c e f hh; cases hh)
    simp only [Builtin.clear_, Sem.run_bind, run_underlying' Try.underlying63, Result.andThen_ok, hget, hset, Sem.run_pure, List.getElem?_toArray, List.getElem?_cons_zero]
  clear hc0 hx hk
  generalize sh.blk = hB at *
  generalize sh.shift = hQ at *
  generalize sm.blk = hM at *
  refine (callsIn_wide (n := 6)).1 ?_
  refine callsIn_of_wp Try.func53 rfl trivial ?_ rfl
  simp only [Try.ntmps53, List.size_toArray, List.length_cons, List.length_nil, Nat.reduceAdd, Nat.reduceSub, Array.replicate_succ, Array.replicate_zero, List.push_toArray, List.append_toArray, List.nil_append, List.cons_append]
  gi_wp2_with (first
    | (gi_at_call 31; refine cR.mono ?_; rintro e w1 ⟨rfl, G1⟩; have hcell := hc w1 G1)
    | (gi_at_call 73; refine (cK _ _).mono ?_; rintro e w2 ⟨rfl, rfl⟩)
    | (gi_at_call 36; refine (cC _ (by assumption)).mono ?_; rintro e w3 ⟨v, ss, rfl, hp, hrow, hnil, hb3⟩)
    | (gi_at_call 35; refine (cV _ (by assumption) _ _ _ (by assumption) (by assumption) (by assumption) (by assumption)).mono ?_; rintro e w4 ⟨v', β', rfl, hv, hG, hA⟩; obtain ⟨hcell4, es4, hm4⟩ := hN _ _ hG; have hclr := fun ty => hU ty _ _ hm4; have hgo := hZ _ _ hG; clear hN hU hZ))
  go_ret
  exact ⟨v', β', rfl, hv, hgo, hA⟩
end Go.Proofs.Ytckgdalbdeeimaa
