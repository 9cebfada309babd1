/- Heap: Dirty, walked in the model's world. -/
import Derived.Test.YtleafaodppcfdaaSrtObj
import Derived.Test.YtleafaodppcfdaaSrtLayD
set_option linter.unusedSimpArgs false
set_option linter.unusedVariables false
set_option maxRecDepth 100000
namespace Go.Proofs.Ytleafaodppcfdaa
open Go.RowKit Go.Sort Go.Maps Go.MapKept Go.WideElems Go.ChangeMaps Go.ChangeShapes Go.WideShapes
theorem collectedN {W : World} {mb ck : Nat} {es : Array MapEntry} {xs : List Int} (hb : W.heap[mb]? = some (.map es ck)) (hS : Stamped es ck) (he : es.toList.map (·.key) = xs.map zv) (hw : ∀ x ∈ xs, (Lit.int .i64 x).wf = true) (hl : xs.length ≤ 1000000) :
    CallsIn Fence.wide 5 Try.prog 29 #[.func (.func 52) #[] #[.pointer (some ⟨W.heap.size, 0, none⟩)]] (W.alloc (.cells #[.map (some mb)] 30)) fun e w' => ∃ (v : Value) (ss : List Int), e = .returned v ∧ ss.Perm xs ∧
      w'.ownsRow W.heap.size 3 1 v ss.length (ss.map zv) ∧ (v = .slice none 0 0 ↔ ss = []) ∧ Below W.heap.size W w' := by
  have hF := fit_any (P := Try.prog) (k := 3) Try.underlying3 hS he hw hl
  have hsz : es.size = xs.length := by have := congrArg List.length he; simpa using this
  have hown : W.ownsMap Try.prog 3 anyV mb es.size (.map ((es.toList.map (WideElems.rg Try.prog 3 anyV)).foldr DataW.insert [])) := ⟨es, ck, hb, hF, Nat.le_refl _, rfl⟩
  have hbl := hown.lt
  have hsize : Maps.size (.map ((es.toList.map (WideElems.rg Try.prog 3 anyV)).foldr DataW.insert []) : DataW Unit) ≤ 1000000 := by
    simp only [Maps.size, length_sorted, List.length_map]; simpa [hsz] using hl
  have hseq : SeqGives Fence.wide 3 Try.prog 52 #[.pointer (some ⟨W.heap.size, 0, none⟩)] encZ (fun ss => ss.Perm (intKeys (.map ((es.toList.map (WideElems.rg Try.prog 3 anyV)).foldr DataW.insert []) : DataW Unit))) (Maps.size (.map ((es.toList.map (WideElems.rg Try.prog 3 anyV)).foldr DataW.insert []) : DataW Unit)) (W.alloc (.cells #[.map (some mb)] 30)) :=
    AnyZI.keys_gives (ρ := Try.keysN_ren) { Try.keysN with } Fence.wide _ trivial rfl (by omega) W.heap.size mb es.size _ _ (by simp) (by simp) (by
      obtain ⟨es, clock, hb, Ft, hs, hD⟩ := hown
      exact ⟨es, clock, (Below.heap_alloc _ _ mb hbl).trans hb, Ft, hs, hD⟩)
  have cC := AnyZI.collect_in Try.coll Fence.wide 5 trivial trivial rfl (by omega) 52 #[.pointer (some ⟨W.heap.size, 0, none⟩)] trivial (enters_of Try.func52 (by kernel_rfl) rfl) _ _ (by unfold maxLen; omega) (by omega) _ hseq
  change CallsIn _ _ Try.prog 29 _ _ _ at cC
  refine cC.mono ?_
  rintro e w' ⟨v, ss, rfl, hp, hrow, hnil, hbw⟩
  refine ⟨v, ss, rfl, ?_, ownsRow_base_a hrow (by simp), hnil, ((Below.refl _ W).alloc (Nat.le_refl _) _).trans (hbw.mono (by simp))⟩
  refine hp.trans ?_
  show List.Perm (List.map _ _) _
  have h1 := (sorted_perm (es.toList.map (WideElems.rg Try.prog 3 anyV))).map (fun p => _root_.Go.intOf p.1)
  rw [rg_any (P := Try.prog) (k := 3) Try.underlying3 es.toList xs he hw] at h1
  exact h1

set_option maxHeartbeats 2000000 in
theorem dirty_walk {β : Ren} {H : AHeap} {w : World} (hr : Rel β H w) (hwf : WF H) {hb mb mn cb ck : Nat} {c0 c1 c3 c4 c5 : Value} {T z : Nat} {own : Bool} (hbr : H.get hb = some (.row [c0, c1, .map (some mb), c3, c4, c5, .map (some mn)] T z own)) {eb es : List MapEntry} (hmb : H.get mb = some (.map eb cb)) (hmn : H.get mn = some (.map es ck)) (hne : hb ≠ mn)
    {sh : Spot} (hsh : β hb = some sh) {xs : List Int} {l : List (Int × Int)} (hx : keysA es = some xs) (hk : kindsA H mb (sortI xs) = some l) :
    Calls Try.prog 17 #[.pointer (some ⟨sh.blk, sh.shift, none⟩)] w fun e w' => ∃ v' β', e = .returned v' ∧ VR β' (resV H l) v' ∧ Goes β H w β' ((resH H l).upd mn (some (.map [] ck))) w' ∧ Ren.agree H.next β β' := by
  obtain ⟨b, q⟩ : ∃ x : Nat × Nat, x = (sh.blk, sh.shift) := ⟨_, rfl⟩
  have hK := keysA_ok hx
  have hc0 : ∀ w1, Goes β H w β H w1 → ∃ sm, β mn = some sm ∧ w1.cell? ⟨sh.blk, sh.shift + 6, none⟩ = some (.map (some sm.blk)) := fun w1 G1 => by
    obtain ⟨v', h1, h2⟩ := (G1.rel.obj _ _ _ hbr hsh).2.1 6 (.map (some mn)) rfl
    cases h2 with
    | @map _ s hs => exact ⟨s, hs, h1⟩
  obtain ⟨sm, hsm, _⟩ := hc0 w (.refl hr)
  have hc : ∀ w1, Goes β H w β H w1 → w1.cell? ⟨sh.blk, sh.shift + 6, none⟩ = some (.map (some sm.blk)) := fun w1 G1 => by
    obtain ⟨s, hs, h1⟩ := hc0 w1 G1
    rw [hsm] at hs; cases hs; exact h1
  have cR : CallsIn Fence.wide 5 Try.prog 25 #[.pointer (some ⟨sh.blk, sh.shift, none⟩)] w fun e w' => e = .returned (.bool true) ∧ Goes β H w β H w' := callsIn_wide.2 (right_walk hr hwf hbr hsh)
  have cK : ∀ m W, CallsIn Fence.wide 5 Try.prog 30 #[.map m] W fun e w' => e = .returned (.func (.func 52) #[] #[.pointer (some ⟨W.heap.size, 0, none⟩)]) ∧ w' = W.alloc (.cells #[.map m] 30) := fun m W => AnyZI.keys_in Try.keysN Fence.wide 5 trivial rfl m W
  have cC : ∀ w1, Goes β H w β H w1 → CallsIn Fence.wide 5 Try.prog 29 #[.func (.func 52) #[] #[.pointer (some ⟨w1.heap.size, 0, none⟩)]] (w1.alloc (.cells #[.map (some sm.blk)] 30)) fun e w' => ∃ (v : Value) (ss : List Int), e = .returned v ∧ ss.Perm xs ∧
      w'.ownsRow w1.heap.size 3 1 v ss.length (ss.map zv) ∧ (v = .slice none 0 0 ↔ ss = []) ∧ Below w1.heap.size w1 w' := fun w1 G1 => by
    obtain ⟨_, hB, es', h1, h2, h3⟩ := G1.rel.obj _ _ _ hmn hsm
    obtain ⟨h4, h5⟩ := keyed_world hK hB h2 h3
    exact collectedN h1 h4 h5 hK.wf hK.len
  have cV : ∀ w1, Goes β H w β H w1 → ∀ w3 v (ss : List Int), ss.Perm xs → w3.ownsRow w1.heap.size 3 1 v ss.length (ss.map zv) → (v = .slice none 0 0 ↔ ss = []) → Below w1.heap.size w1 w3 →
      CallsIn Fence.wide 5 Try.prog 28 #[.pointer (some ⟨sh.blk, sh.shift, none⟩), v] w3 fun e w' => ∃ v' β', e = .returned v' ∧ VR β' (resV H l) v' ∧ Goes β H w β' (resH H l) w' ∧ Ren.agree H.next β β' := fun w1 G1 w3 v ss hp hrow hnil hb3 => callsIn_wide.2 <| by
    refine (values_world G1.rel hwf hbr hmb hsh hk hp hK.len hb3 hrow hnil).mono ?_
    rintro e w' ⟨v', β', h1, h2, h3, h4⟩
    exact ⟨v', β', h1, h2, G1.trans h3, h4⟩
  have hf1 : Fence.wide.fn 25 := trivial
  have hf2 : Fence.wide.fn 30 := trivial
  have hf3 : Fence.wide.fn 29 := trivial
  have hf4 : Fence.wide.fn 28 := trivial
  have hN : ∀ w4 β', Goes β H w β' (resH H l) w4 → w4.cell? ⟨sh.blk, sh.shift + 6, none⟩ = some (.map (some sm.blk)) ∧ ∃ es4, w4.heap[sm.blk]? = some (.map es4 ck) := fun w4 β' G => by
    have h1 : (resH H l).get hb = H.get hb := by
      have := wf_lt hwf hbr
      cases l with
      | nil => rfl
      | cons p l => exact (add_get H _ hb).trans (if_neg (by omega))
    have h2 : (resH H l).get mn = H.get mn := by
      have := wf_lt hwf hmn
      cases l with
      | nil => rfl
      | cons p l => exact (add_get H _ mn).trans (if_neg (by omega))
    refine ⟨?_, ?_⟩
    · obtain ⟨v', h3, h4⟩ := (G.rel.obj _ _ _ (h1.trans hbr) (G.le _ _ hsh)).2.1 6 (.map (some mn)) rfl
      cases h4 with
      | @map _ s hs => rw [G.le _ _ hsm] at hs; cases hs; exact h3
    · obtain ⟨_, _, es', h3, _⟩ := G.rel.obj _ _ _ (h2.trans hmn) (G.le _ _ hsm)
      exact ⟨es', h3⟩
  have hZ : ∀ w4 β', Goes β H w β' (resH H l) w4 → Goes β H w β' ((resH H l).upd mn (some (.map [] ck))) { w4 with heap := w4.heap.setIfInBounds sm.blk (.map #[] ck) } := fun w4 β' G => by
    have h2 : (resH H l).get mn = H.get mn := by
      have := wf_lt hwf hmn
      cases l with
      | nil => rfl
      | cons p l => exact (add_get H _ mn).trans (if_neg (by omega))
    have hso := (G.rel.obj _ _ _ (h2.trans hmn) (G.le _ _ hsm)).1
    exact G.trans (Goes.setObj G.rel (h2.trans hmn) (G.le _ _ hsm) hso (.map #[] ck) (o' := .map [] ck) (fun w' hw => ⟨hso, born_nil _, _, hw, rfl, fun j e e' a => by simp at a⟩))
  have hU : ∀ ty w4 es4, w4.heap[sm.blk]? = some (.map es4 ck) → Sem.run Try.prog (Builtin.clear_ #[30] ty #[.map (some sm.blk)]) w4 = .ok (.tuple #[]) { w4 with heap := w4.heap.setIfInBounds sm.blk (.map #[] ck) } := fun ty w4 es4 h1 => by
    have hget := run_getObj' (P := Try.prog) h1 (by intro c e f hh; cases hh)
    have hset : ∀ O', (setObj sm.blk O').run Try.prog w4 = .ok () { w4 with heap := w4.heap.setIfInBounds sm.blk O' } := fun O' => run_setObj' (P := Try.prog) h1 (by intro c e f hh; cases hh)
    simp only [Builtin.clear_, Sem.run_bind, run_underlying' Try.underlying30, Result.andThen_ok, hget, hset, Sem.run_pure, List.getElem?_toArray, List.getElem?_cons_zero]
  clear hc0 hx hk
  generalize sh.blk = hB at *
  generalize sh.shift = hQ at *
  generalize sm.blk = hM at *
  refine (callsIn_wide (n := 6)).1 ?_
  refine callsIn_of_wp Try.func17 rfl trivial ?_ rfl
  simp only [Try.ntmps17, List.size_toArray, List.length_cons, List.length_nil, Nat.reduceAdd, Nat.reduceSub, Array.replicate_succ, Array.replicate_zero, List.push_toArray, List.append_toArray, List.nil_append, List.cons_append]
  gi_wp2_with (first
    | (gi_at_call 25; refine cR.mono ?_; rintro e w1 ⟨rfl, G1⟩; have hcell := hc w1 G1)
    | (gi_at_call 30; refine (cK _ _).mono ?_; rintro e w2 ⟨rfl, rfl⟩)
    | (gi_at_call 29; refine (cC _ (by assumption)).mono ?_; rintro e w3 ⟨v, ss, rfl, hp, hrow, hnil, hb3⟩)
    | (gi_at_call 28; refine (cV _ (by assumption) _ _ _ (by assumption) (by assumption) (by assumption) (by assumption)).mono ?_; rintro e w4 ⟨v', β', rfl, hv, hG, hA⟩; obtain ⟨hcell4, es4, hm4⟩ := hN _ _ hG; have hclr := fun ty => hU ty _ _ hm4; have hgo := hZ _ _ hG; clear hN hU hZ))
  go_ret
  exact ⟨v', β', rfl, hv, hgo, hA⟩
end Go.Proofs.Ytleafaodppcfdaa
