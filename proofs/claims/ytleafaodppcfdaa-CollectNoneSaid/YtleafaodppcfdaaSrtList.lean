/- Heap: what Objects and Dirty tell, as a function of the machine's memory; values in the model's world. -/
import Derived.Test.YtleafaodppcfdaaSrtColl
set_option linter.unusedSimpArgs false
set_option linter.unusedVariables false
set_option maxRecDepth 100000
namespace Go.Proofs.Ytleafaodppcfdaa
open Go.RowKit Go.Sort Go.MapKept

def nodZ : List Int → Bool
  | [] => true
  | x :: l => cond (l.any fun y => decide (x = y)) false (nodZ l)
theorem nodZ_ok : ∀ l, nodZ l = true → l.Nodup
  | [], _ => .nil
  | x :: l, h => by
    simp only [nodZ] at h
    cases hb : l.any fun y => decide (x = y) with
    | true => rw [hb] at h; cases h
    | false =>
      rw [hb] at h
      refine List.nodup_cons.2 ⟨fun hm => ?_, nodZ_ok l h⟩
      have : (l.any fun y => decide (x = y)) = true := List.any_eq_true.2 ⟨x, hm, by simp⟩
      rw [hb] at this; cases this
/-- a map's keys, where they are numbers -/
def keysA (es : List MapEntry) : Option (List Int) :=
  match intsOf (es.map (·.key)) with
  | some xs => cond (xs.all (fun x => (Lit.int .i64 x).wf) && (nodZ xs && Nat.ble xs.length 1000000)) (some xs) none
  | none => none
structure Keyed (es : List MapEntry) (xs : List Int) : Prop where
  keys : es.map (·.key) = xs.map zv
  wf : ∀ x ∈ xs, (Lit.int .i64 x).wf = true
  nodK : xs.Nodup
  len : xs.length ≤ 1000000
theorem keysA_ok {es : List MapEntry} {xs : List Int} (h : keysA es = some xs) : Keyed es xs := by
  unfold keysA at h
  split at h
  · rename_i ys hy
    cases hc : (ys.all (fun x => (Lit.int .i64 x).wf) && (nodZ ys && Nat.ble ys.length 1000000)) with
    | false => rw [hc] at h; cases h
    | true =>
      rw [hc] at h
      cases h
      simp only [Bool.and_eq_true, List.all_eq_true, Nat.ble_eq] at hc
      exact ⟨intsOf_some _ _ hy, hc.1, nodZ_ok _ hc.2.1, hc.2.2⟩
  · cases h
/-- the model's map, where the machine's is keyed -/
theorem keyed_world {β : Ren} {es : List MapEntry} {es' : Array MapEntry} {ck : Nat} {xs : List Int} (h : Keyed es xs) (hB : Born es ck) (hs : es'.size = es.length) (he : ∀ (j : Nat) (e e' : MapEntry), es[j]? = some e → es'[j]? = some e' → EntryRel β e e') :
    Stamped es' ck ∧ es'.toList.map (·.key) = xs.map zv := by
  have hb : es'.toList.map (·.born) = es.map (·.born) := by
    apply List.ext_getElem (by simp [hs])
    intro j h1 h2
    simp only [List.length_map, Array.length_toList] at h1 h2
    have := (he j (es[j]'h2) (es'[j]'h1) (by simp) (by simp)).2.2.1
    simpa using this
  have hk : es'.toList.map (·.key) = es.map (·.key) := by
    apply List.ext_getElem (by simp [hs])
    intro j h1 h2
    simp only [List.length_map, Array.length_toList] at h1 h2
    have := (he j (es[j]'h2) (es'[j]'h1) (by simp) (by simp)).2.1
    simpa using this
  refine ⟨⟨fun e' hm => ?_, by rw [hb]; exact hB.2, ?_⟩, by rw [hk]; exact h.keys⟩
  · have h1 : e'.born ∈ es'.toList.map (·.born) := List.mem_map.2 ⟨e', hm, rfl⟩
    rw [hb] at h1
    obtain ⟨e, h2, h3⟩ := List.mem_map.1 h1
    rw [← h3]; exact hB.1 e h2
  · rw [hk, h.keys]
    exact List.Pairwise.map zv (fun a b (hn : a ≠ b) e => hn (by cases e; rfl)) h.nodK
/-- an object's kind -/
noncomputable def kindA (H : AHeap) (mb : Nat) (x : Int) : Option Int := match aLookup Try.prog 28 (.map (some mb)) (.int .i64 x) false H with
  | some (.pointer (some ⟨b, 0, none⟩)) => match H.get b with
    | some (.row (.int .u8 k :: _) _ _ _) => some k
    | _ => none
  | _ => none
noncomputable def kindsA (H : AHeap) (mb : Nat) : List Int → Option (List (Int × Int))
  | [] => some []
  | x :: l => match kindA H mb x with
    | some k => (kindsA H mb l).map ((k, x) :: ·)
    | none => none
theorem kindsA_ok (H : AHeap) (mb : Nat) : ∀ (l : List Int) (r : List (Int × Int)), kindsA H mb l = some r → r = l.map (fun x => ((kindA H mb x).getD 0, x)) ∧ ∀ x ∈ l, kindA H mb x = some ((kindA H mb x).getD 0)
  | [], r, h => by simp only [kindsA, Option.some.injEq] at h; subst h; exact ⟨rfl, fun x hx => by cases hx⟩
  | x :: l, r, h => by
    simp only [kindsA] at h
    cases hk : kindA H mb x with
    | none => rw [hk] at h; cases h
    | some k =>
      rw [hk] at h
      obtain ⟨r', h1, rfl⟩ := Option.map_eq_some_iff.1 h
      obtain ⟨h2, h3⟩ := kindsA_ok H mb l r' h1
      refine ⟨by simp only [List.map_cons, hk, Option.getD_some, h2], fun y hy => ?_⟩
      rcases List.mem_cons.1 hy with rfl | hy
      · rw [hk]; rfl
      · exact h3 y hy
/-- what is told, and what it leaves behind -/
def resV (H : AHeap) : List (Int × Int) → Value
  | [] => .slice none 0 0
  | p :: l => .slice (some ⟨H.next, 0, none⟩) (l.length + 1) 0
def resH (H : AHeap) : List (Int × Int) → AHeap
  | [] => H
  | p :: l => { H.add H.next (.row (kvCells (p :: l)) 45 2 true) with next := H.next + 1 }
/-- the objects under a map's keys -/
noncomputable def listFn (H : AHeap) (m mb : Nat) : Option (Value × AHeap) := match H.get m, H.get mb with
  | some (.map es ck), some (.map _ _) => match keysA es with
    | some xs => (kindsA H mb (sortI xs)).map fun l => (resV H l, resH H l)
    | none => none
  | _, _ => none
theorem look_same {P : Program} {t : TypeId} {mb : Nat} {k : Value} {ok : Bool} {H H' : AHeap} (h : H'.get mb = H.get mb) : aLookup P t (.map (some mb)) k ok H' = aLookup P t (.map (some mb)) k ok H := by
  simp only [aLookup, entriesOf, h]
end Go.Proofs.Ytleafaodppcfdaa
