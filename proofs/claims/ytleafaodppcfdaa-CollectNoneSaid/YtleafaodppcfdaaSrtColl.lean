/- Heap: the keys of a map, collected: the library's contracts at this program. -/
import Derived.Test.YtleafaodppcfdaaSrt
import Derived.Test.YtleafaodppcfdaaSrtRel
set_option linter.unusedSimpArgs false
set_option linter.unusedVariables false
namespace Go.Proofs.Ytleafaodppcfdaa
open Go.RowKit Go.Sort Go.Maps Go.MapKept Go.WideElems Go.ChangeMaps Go.ChangeShapes Go.WideShapes

/-- whatever a map's values are -/
def anyV : Value → Option (DataW Unit × List MemPlace) := fun _ => some (.nil, [])
theorem rd_any {P : Program} {k : TypeId} (hk : P.underlying k = some (.int .i64)) {e : MapEntry} {x : Int} (he : e.key = .int .i64 x) (hw : (Lit.int .i64 x).wf = true) : WideElems.rd P k anyV e = some (.int .i64 x, .nil) := by
  unfold WideElems.rd
  rw [he, keyOf_int_mk hk hw]; rfl
theorem rg_any {P : Program} {k : TypeId} (hk : P.underlying k = some (.int .i64)) : ∀ (es : List MapEntry) (xs : List Int), es.map (·.key) = xs.map zv → (∀ x ∈ xs, (Lit.int .i64 x).wf = true) → (es.map (WideElems.rg P k anyV)).map (fun p => _root_.Go.intOf p.1) = xs
  | [], [], _, _ => rfl
  | [], x :: xs, h, _ => by simp at h
  | e :: es, [], h, _ => by simp at h
  | e :: es, x :: xs, h, hw => by
    simp only [List.map_cons, List.cons.injEq] at h ⊢
    refine ⟨?_, rg_any hk es xs h.2 fun y hy => hw y (List.mem_cons_of_mem _ hy)⟩
    rw [WideElems.rg_of (rd_any hk h.1 (hw x (List.mem_cons_self ..)))]; rfl
theorem fit_any {P : Program} {k : TypeId} (hk : P.underlying k = some (.int .i64)) {es : Array MapEntry} {ck : Nat} {xs : List Int} (hS : Stamped es ck) (he : es.toList.map (·.key) = xs.map zv) (hw : ∀ x ∈ xs, (Lit.int .i64 x).wf = true) (hl : xs.length ≤ 1000000) : WideElems.Fit P k anyV es ck := by
  have hsz : es.size = xs.length := by have := congrArg List.length he; simpa using this
  refine ⟨by rw [hsz]; unfold maxLen; omega, hS, fun e hm => ?_⟩
  have h1 : e.key ∈ es.toList.map (·.key) := List.mem_map.2 ⟨e, hm, rfl⟩
  rw [he] at h1
  obtain ⟨x, hx, hxe⟩ := List.mem_map.1 h1
  exact ⟨_, rd_any hk hxe.symm (hw x hx)⟩

theorem collectedO {W : World} {mb ck : Nat} {es : Array MapEntry} {xs : List Int} (hb : W.heap[mb]? = some (.map es ck)) (hS : Stamped es ck) (he : es.toList.map (·.key) = xs.map zv) (hw : ∀ x ∈ xs, (Lit.int .i64 x).wf = true) (hl : xs.length ≤ 1000000) :
    CallsIn Fence.wide 5 Try.prog 29 #[.func (.func 63) #[] #[.pointer (some ⟨W.heap.size, 0, none⟩)]] (W.alloc (.cells #[.map (some mb)] 28)) fun e w' => ∃ (v : Value) (ss : List Int), e = .returned v ∧ ss.Perm xs ∧
      w'.ownsRow W.heap.size 3 1 v ss.length (ss.map zv) ∧ (v = .slice none 0 0 ↔ ss = []) ∧ Below W.heap.size W w' := by
  have hF := fit_any (P := Try.prog) (k := 3) Try.underlying3 hS he hw hl
  have hsz : es.size = xs.length := by have := congrArg List.length he; simpa using this
  have hown : W.ownsMap Try.prog 3 anyV mb es.size (.map ((es.toList.map (WideElems.rg Try.prog 3 anyV)).foldr DataW.insert [])) := ⟨es, ck, hb, hF, Nat.le_refl _, rfl⟩
  have hbl := hown.lt
  have hsize : Maps.size (.map ((es.toList.map (WideElems.rg Try.prog 3 anyV)).foldr DataW.insert []) : DataW Unit) ≤ 1000000 := by
    simp only [Maps.size, length_sorted, List.length_map]; simpa [hsz] using hl
  have hseq : SeqGives Fence.wide 3 Try.prog 63 #[.pointer (some ⟨W.heap.size, 0, none⟩)] encZ (fun ss => ss.Perm (intKeys (.map ((es.toList.map (WideElems.rg Try.prog 3 anyV)).foldr DataW.insert []) : DataW Unit))) (Maps.size (.map ((es.toList.map (WideElems.rg Try.prog 3 anyV)).foldr DataW.insert []) : DataW Unit)) (W.alloc (.cells #[.map (some mb)] 28)) :=
    AnyZI.keys_gives (ρ := Try.keysO_ren) { Try.keysO with } Fence.wide _ trivial rfl (by omega) W.heap.size mb es.size _ _ (by simp) (by simp) (by
      obtain ⟨es, clock, hb, Ft, hs, hD⟩ := hown
      exact ⟨es, clock, (Below.heap_alloc _ _ mb hbl).trans hb, Ft, hs, hD⟩)
  have cC := AnyZI.collect_in Try.coll Fence.wide 5 trivial trivial rfl (by omega) 63 #[.pointer (some ⟨W.heap.size, 0, none⟩)] trivial (enters_of Try.func63 (by kernel_rfl) rfl) _ _ (by unfold maxLen; omega) (by omega) _ hseq
  change CallsIn _ _ Try.prog 29 _ _ _ at cC
  refine cC.mono ?_
  rintro e w' ⟨v, ss, rfl, hp, hrow, hnil, hbw⟩
  refine ⟨v, ss, rfl, ?_, ownsRow_base_a hrow (by simp), hnil, ((Below.refl _ W).alloc (Nat.le_refl _) _).trans (hbw.mono (by simp))⟩
  refine hp.trans ?_
  show List.Perm (List.map _ _) _
  have h1 := (sorted_perm (es.toList.map (WideElems.rg Try.prog 3 anyV))).map (fun p => _root_.Go.intOf p.1)
  rw [rg_any (P := Try.prog) (k := 3) Try.underlying3 es.toList xs he hw] at h1
  exact h1

end Go.Proofs.Ytleafaodppcfdaa
