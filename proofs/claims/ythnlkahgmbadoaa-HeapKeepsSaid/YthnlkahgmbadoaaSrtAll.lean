/- Rows that a call has made become blocks of the machine's. -/
import Derived.Test.YthnlkahgmbadoaaHpVals
import Derived.Test.YthnlkahgmbadoaaSrt
set_option linter.unusedSimpArgs false
set_option linter.unusedVariables false
namespace Go.Proofs.Ythnlkahgmbadoaa
open Go.RowKit Go.Sort

theorem goes_fresh {β : Ren} {H : AHeap} {w W : World} (hr : Rel β H w) (G : Goes β H w β H W) {s : Spot} {o : AObj} (hown : s.own = true) (ho : ∀ β', ObjOk β' W s o) (hlo : w.heap.size ≤ s.blk) (hhi : s.blk < W.heap.size) (hap : ∀ k ok sk, H.get k = some ok → β k = some sk → sk.blk ≠ s.blk) :
    Goes β H w (β.put H.next s) { H.add H.next o with next := H.next + 1 } W := by
  have hle : β.le (β.put H.next s) := β.le_put H.next s (hr.fresh _ (Nat.le_refl _))
  have hget : ∀ i, ({ H.add H.next o with next := H.next + 1 } : AHeap).get i = if i = H.next then some o else H.get i := fun i => AHeap.get_add H H.next o i
  have hold : ∀ {i : Nat} {si : Spot}, β.put H.next s i = some si → (i = H.next ∧ si = s) ∨ (i ≠ H.next ∧ β i = some si) := by
    intro i si hi
    by_cases e : i = H.next
    · subst e; rw [Ren.put_same] at hi; cases hi; exact .inl ⟨rfl, rfl⟩
    · rw [Ren.put_other β s e] at hi; exact .inr ⟨e, hi⟩
  refine ⟨hle, ⟨?_, ?_, ?_, ?_⟩, G.os, G.tape, G.output, G.size, G.keep, ?_, ?_⟩
  · intro i oi si a b
    rw [hget] at a
    rcases hold b with ⟨rfl, rfl⟩ | ⟨e, b⟩
    · rw [if_pos rfl] at a; cases a; exact ho _
    · rw [if_neg e] at a
      exact (G.rel.obj i oi si a b).mono hle rfl
  · intro i si b
    rcases hold b with ⟨rfl, rfl⟩ | ⟨e, b⟩
    · exact hhi
    · exact G.rel.blk i si b
  · intro i j oi oj si sj a b c d hij hso
    rw [hget] at a b
    rcases hold c with ⟨rfl, rfl⟩ | ⟨e, c⟩ <;> rcases hold d with ⟨rfl, rfl⟩ | ⟨e2, d⟩
    · exact absurd rfl hij
    · rw [if_neg e2] at b; exact (hap _ _ _ b d).symm
    · rw [if_neg e] at a; exact hap _ _ _ a ‹β i = some si›
    · rw [if_neg e] at a; rw [if_neg e2] at b
      exact G.rel.apart i j oi oj si sj a b c d hij hso
  · intro i hi
    have hi : H.next + 1 ≤ i := hi
    rw [Ren.put_other β s (by omega)]
    exact hr.fresh i (by omega)
  · rintro b hb ⟨i, oi, si, a, c, d, e⟩
    rw [hget] at a
    rcases hold c with ⟨rfl, rfl⟩ | ⟨e2, c⟩
    · omega
    · rw [if_neg e2] at a; exact ⟨i, oi, si, a, c, d, e⟩
  · rintro b hb ⟨i, oi, si, a, c, e⟩
    rw [hget] at a
    rcases hold c with ⟨rfl, rfl⟩ | ⟨e2, c⟩
    · omega
    · rw [if_neg e2] at a; exact ⟨i, oi, si, a, c, e⟩

/-- a row that the library has made -/
theorem goes_row {β : Ren} {H : AHeap} {w W : World} (hr : Rel β H w) (hb : Below w.heap.size w W) {g cap : Nat} {T : TypeId} {cur : Array Value} {xs : List Int} (hg : w.heap.size ≤ g) (hc : W.heap[g]? = some (.cells cur T (0, 0))) (hs : cur.size = cap * 1) (hx : cur.toList.take (xs.length * 1) = xs.map zv) :
    Goes β H w (β.put H.next ⟨g, 0, 1, cap, true⟩) { H.add H.next (.row (xs.map zv) T 1 true) with next := H.next + 1 } W := by
  refine goes_fresh hr (goes_below hr hb) rfl (fun β' => ⟨rfl, fun j v hj => ?_, fun _ => ⟨rfl, cur, (0, 0), hc, by simpa using hs, fun j _ => by simp⟩⟩) hg (Array.getElem?_eq_some_iff.1 hc).1 fun k ok sk hk hsk => by have := hr.blk k sk hsk; show sk.blk ≠ g; omega
  rw [List.getElem?_map] at hj
  obtain ⟨x, hxj, rfl⟩ := Option.map_eq_some_iff.1 hj
  have hlt := (List.getElem?_eq_some_iff.1 hxj).1
  refine ⟨zv x, ?_, .int _ _⟩
  unfold World.cell?
  simp only [hc, Nat.zero_add]
  have h1 : (cur.toList.take (xs.length * 1))[j]? = some (zv x) := by rw [hx, List.getElem?_map, hxj]; rfl
  rw [List.getElem?_take_of_lt (by omega), Array.getElem?_toList] at h1
  exact h1

/-- behind a call of the machine's that has kept what there was: its result's row alone is held -/
theorem goes_keepRow {β β' : Ren} {H H3 : AHeap} {w W : World} (hr : Rel β H w) (G : Goes β H w β' H3 W) (hk : ∀ i, i < H.next → H3.get i = H.get i) {j : Nat} {s : Spot} {l : List (Int × Int)} {T z : Nat} (hj : H3.get j = some (.row (kvCells l) T z true)) (hs : β' j = some s) (hjn : H.next ≤ j) :
    Goes β H w (β.put H.next s) { H.add H.next (.row (kvCells l) T z true) with next := H.next + 1 } W := by
  have hlt : ∀ i si, β i = some si → i < H.next := fun i si hi => by
    rcases Nat.lt_or_ge i H.next with h | h
    · exact h
    · rw [hr.fresh i h] at hi; cases hi
  have hkk : ∀ i o si, H.get i = some o → β i = some si → H3.get i = some o := fun i o si hi hb => by rw [hk i (hlt i si hb)]; exact hi
  have F := G.forget hr (fun i o hi ⟨si, hb⟩ => hkk i o si hi hb)
  have hO := G.rel.obj _ _ _ hj hs
  have hown := hO.1.symm
  have hap : ∀ k ok sk, H.get k = some ok → β k = some sk → sk.blk ≠ s.blk := fun k ok sk a b =>
    (G.rel.apart j k _ ok s sk hj (hkk k ok sk a b) hs (G.le _ _ b) (by have := hlt k sk b; omega) hown).symm
  refine goes_fresh hr F hown (fun β2 => ⟨hO.1, fun q v hq => ?_, hO.2.2⟩) ?_ (G.rel.blk _ _ hs) hap
  · obtain ⟨v', h1, h2⟩ := hO.2.1 q v hq
    refine ⟨v', h1, ?_⟩
    have hm := List.mem_of_getElem? hq
    unfold kvCells at hm
    obtain ⟨p, _, hp⟩ := List.mem_flatMap.1 hm
    simp only [List.mem_cons, List.not_mem_nil, or_false] at hp
    rcases hp with rfl | rfl <;> cases h2 <;> exact .int _ _
  · rcases Nat.lt_or_ge s.blk w.heap.size with h | h
    · obtain ⟨k, ok, sk, a, b, _, e⟩ := G.own s.blk h ⟨j, _, s, hj, hs, hown, rfl⟩
      exact absurd e (hap k ok sk a b)
    · exact h
end Go.Proofs.Ythnlkahgmbadoaa

set_option linter.unusedSimpArgs false
set_option linter.unusedVariables false
namespace Go.Proofs.Ythnlkahgmbadoaa
open Go.RowKit Go.Sort Go.Maps Go.MapKept Go.WideElems Go.ChangeMaps Go.ChangeShapes Go.WideShapes

/-- whatever a map's values are -/
def anyV : Value → Option (DataW Unit × List MemPlace) := fun _ => some (.nil, [])
theorem rd_any {P : Program} {k : TypeId} (hk : P.underlying k = some (.int .i64)) {e : MapEntry} {x : Int} (he : e.key = .int .i64 x) (hw : (Lit.int .i64 x).wf = true) : WideElems.rd P k anyV e = some (.int .i64 x, .nil) := by
  unfold WideElems.rd
  rw [he, keyOf_int_mk hk hw]; rfl
theorem rg_any {P : Program} {k : TypeId} (hk : P.underlying k = some (.int .i64)) : ∀ (es : List MapEntry) (xs : List Int), es.map (·.key) = xs.map zv → (∀ x ∈ xs, (Lit.int .i64 x).wf = true) → (es.map (WideElems.rg P k anyV)).map (fun p => _root_.Go.intOf p.1) = xs
  | [], [], _, _ => rfl
  | [], x :: xs, h, _ => by simp at h
  | e :: es, [], h, _ => by simp at h
  | e :: es, x :: xs, h, hw => by
    simp only [List.map_cons, List.cons.injEq] at h ⊢
    refine ⟨?_, rg_any hk es xs h.2 fun y hy => hw y (List.mem_cons_of_mem _ hy)⟩
    rw [WideElems.rg_of (rd_any hk h.1 (hw x (List.mem_cons_self ..)))]; rfl
theorem fit_any {P : Program} {k : TypeId} (hk : P.underlying k = some (.int .i64)) {es : Array MapEntry} {ck : Nat} {xs : List Int} (hS : Stamped es ck) (he : es.toList.map (·.key) = xs.map zv) (hw : ∀ x ∈ xs, (Lit.int .i64 x).wf = true) (hl : xs.length ≤ 1000000) : WideElems.Fit P k anyV es ck := by
  have hsz : es.size = xs.length := by have := congrArg List.length he; simpa using this
  refine ⟨by rw [hsz]; unfold maxLen; omega, hS, fun e hm => ?_⟩
  have h1 : e.key ∈ es.toList.map (·.key) := List.mem_map.2 ⟨e, hm, rfl⟩
  rw [he] at h1
  obtain ⟨x, hx, hxe⟩ := List.mem_map.1 h1
  exact ⟨_, rd_any hk hxe.symm (hw x hx)⟩

theorem collectedO {W : World} {mb ck : Nat} {es : Array MapEntry} {xs : List Int} (hb : W.heap[mb]? = some (.map es ck)) (hS : Stamped es ck) (he : es.toList.map (·.key) = xs.map zv) (hw : ∀ x ∈ xs, (Lit.int .i64 x).wf = true) (hl : xs.length ≤ 1000000) :
    CallsIn Fence.wide 5 Try.prog 27 #[.func (.func 43) #[] #[.pointer (some ⟨W.heap.size, 0, none⟩)]] (W.alloc (.cells #[.map (some mb)] 60)) fun e w' => ∃ (v : Value) (ss : List Int), e = .returned v ∧ ss.Perm xs ∧
      w'.ownsRow W.heap.size 3 1 v ss.length (ss.map zv) ∧ (v = .slice none 0 0 ↔ ss = []) ∧ Below W.heap.size W w' := by
  have hF := fit_any (P := Try.prog) (k := 3) Try.underlying3 hS he hw hl
  have hsz : es.size = xs.length := by have := congrArg List.length he; simpa using this
  have hown : W.ownsMap Try.prog 3 anyV mb es.size (.map ((es.toList.map (WideElems.rg Try.prog 3 anyV)).foldr DataW.insert [])) := ⟨es, ck, hb, hF, Nat.le_refl _, rfl⟩
  have hbl := hown.lt
  have hsize : Maps.size (.map ((es.toList.map (WideElems.rg Try.prog 3 anyV)).foldr DataW.insert []) : DataW Unit) ≤ 1000000 := by
    simp only [Maps.size, length_sorted, List.length_map]; simpa [hsz] using hl
  have hseq : SeqGives Fence.wide 3 Try.prog 43 #[.pointer (some ⟨W.heap.size, 0, none⟩)] encZ (fun ss => ss.Perm (intKeys (.map ((es.toList.map (WideElems.rg Try.prog 3 anyV)).foldr DataW.insert []) : DataW Unit))) (Maps.size (.map ((es.toList.map (WideElems.rg Try.prog 3 anyV)).foldr DataW.insert []) : DataW Unit)) (W.alloc (.cells #[.map (some mb)] 60)) :=
    AnyZI.keys_gives (ρ := Try.keysO_ren) { Try.keysO with } Fence.wide _ trivial rfl (by omega) W.heap.size mb es.size _ _ (by simp) (by simp) (by
      obtain ⟨es, clock, hb, Ft, hs, hD⟩ := hown
      exact ⟨es, clock, (Below.heap_alloc _ _ mb hbl).trans hb, Ft, hs, hD⟩)
  have cC := AnyZI.collect_in Try.coll Fence.wide 5 trivial trivial rfl (by omega) 43 #[.pointer (some ⟨W.heap.size, 0, none⟩)] trivial (enters_of Try.func43 (by kernel_rfl) rfl) _ _ (by unfold maxLen; omega) (by omega) _ hseq
  change CallsIn _ _ Try.prog 27 _ _ _ at cC
  refine cC.mono ?_
  rintro e w' ⟨v, ss, rfl, hp, hrow, hnil, hbw⟩
  refine ⟨v, ss, rfl, ?_, ownsRow_base_a hrow (by simp), hnil, ((Below.refl _ W).alloc (Nat.le_refl _) _).trans (hbw.mono (by simp))⟩
  refine hp.trans ?_
  show List.Perm (List.map _ _) _
  have h1 := (sorted_perm (es.toList.map (WideElems.rg Try.prog 3 anyV))).map (fun p => _root_.Go.intOf p.1)
  rw [rg_any (P := Try.prog) (k := 3) Try.underlying3 es.toList xs he hw] at h1
  exact h1

end Go.Proofs.Ythnlkahgmbadoaa

set_option linter.unusedSimpArgs false
set_option linter.unusedVariables false
set_option maxRecDepth 100000
namespace Go.Proofs.Ythnlkahgmbadoaa
open Go.RowKit Go.Sort Go.MapKept

def nodZ : List Int → Bool
  | [] => true
  | x :: l => cond (l.any fun y => decide (x = y)) false (nodZ l)
theorem nodZ_ok : ∀ l, nodZ l = true → l.Nodup
  | [], _ => .nil
  | x :: l, h => by
    simp only [nodZ] at h
    cases hb : l.any fun y => decide (x = y) with
    | true => rw [hb] at h; cases h
    | false =>
      rw [hb] at h
      refine List.nodup_cons.2 ⟨fun hm => ?_, nodZ_ok l h⟩
      have : (l.any fun y => decide (x = y)) = true := List.any_eq_true.2 ⟨x, hm, by simp⟩
      rw [hb] at this; cases this
/-- a map's keys, where they are numbers -/
def keysA (es : List MapEntry) : Option (List Int) :=
  match intsOf (es.map (·.key)) with
  | some xs => cond (xs.all (fun x => (Lit.int .i64 x).wf) && (nodZ xs && Nat.ble xs.length 1000000)) (some xs) none
  | none => none
structure Keyed (es : List MapEntry) (xs : List Int) : Prop where
  keys : es.map (·.key) = xs.map zv
  wf : ∀ x ∈ xs, (Lit.int .i64 x).wf = true
  nodK : xs.Nodup
  len : xs.length ≤ 1000000
theorem keysA_ok {es : List MapEntry} {xs : List Int} (h : keysA es = some xs) : Keyed es xs := by
  unfold keysA at h
  split at h
  · rename_i ys hy
    cases hc : (ys.all (fun x => (Lit.int .i64 x).wf) && (nodZ ys && Nat.ble ys.length 1000000)) with
    | false => rw [hc] at h; cases h
    | true =>
      rw [hc] at h
      cases h
      simp only [Bool.and_eq_true, List.all_eq_true, Nat.ble_eq] at hc
      exact ⟨intsOf_some _ _ hy, hc.1, nodZ_ok _ hc.2.1, hc.2.2⟩
  · cases h
/-- the model's map, where the machine's is keyed -/
theorem keyed_world {β : Ren} {es : List MapEntry} {es' : Array MapEntry} {ck : Nat} {xs : List Int} (h : Keyed es xs) (hB : Born es ck) (hs : es'.size = es.length) (he : ∀ (j : Nat) (e e' : MapEntry), es[j]? = some e → es'[j]? = some e' → EntryRel β e e') :
    Stamped es' ck ∧ es'.toList.map (·.key) = xs.map zv := by
  have hb : es'.toList.map (·.born) = es.map (·.born) := by
    apply List.ext_getElem (by simp [hs])
    intro j h1 h2
    simp only [List.length_map, Array.length_toList] at h1 h2
    have := (he j (es[j]'h2) (es'[j]'h1) (by simp) (by simp)).2.2.1
    simpa using this
  have hk : es'.toList.map (·.key) = es.map (·.key) := by
    apply List.ext_getElem (by simp [hs])
    intro j h1 h2
    simp only [List.length_map, Array.length_toList] at h1 h2
    have := (he j (es[j]'h2) (es'[j]'h1) (by simp) (by simp)).2.1
    simpa using this
  refine ⟨⟨fun e' hm => ?_, by rw [hb]; exact hB.2, ?_⟩, by rw [hk]; exact h.keys⟩
  · have h1 : e'.born ∈ es'.toList.map (·.born) := List.mem_map.2 ⟨e', hm, rfl⟩
    rw [hb] at h1
    obtain ⟨e, h2, h3⟩ := List.mem_map.1 h1
    rw [← h3]; exact hB.1 e h2
  · rw [hk, h.keys]
    exact List.Pairwise.map zv (fun a b (hn : a ≠ b) e => hn (by cases e; rfl)) h.nodK
/-- an object's kind -/
noncomputable def kindA (H : AHeap) (mb : Nat) (x : Int) : Option Int := match aLookup Try.prog 60 (.map (some mb)) (.int .i64 x) false H with
  | some (.pointer (some ⟨b, 0, none⟩)) => match H.get b with
    | some (.row (.int .u8 k :: _) _ _ _) => some k
    | _ => none
  | _ => none
noncomputable def kindsA (H : AHeap) (mb : Nat) : List Int → Option (List (Int × Int))
  | [] => some []
  | x :: l => match kindA H mb x with
    | some k => (kindsA H mb l).map ((k, x) :: ·)
    | none => none
theorem kindsA_ok (H : AHeap) (mb : Nat) : ∀ (l : List Int) (r : List (Int × Int)), kindsA H mb l = some r → r = l.map (fun x => ((kindA H mb x).getD 0, x)) ∧ ∀ x ∈ l, kindA H mb x = some ((kindA H mb x).getD 0)
  | [], r, h => by simp only [kindsA, Option.some.injEq] at h; subst h; exact ⟨rfl, fun x hx => by cases hx⟩
  | x :: l, r, h => by
    simp only [kindsA] at h
    cases hk : kindA H mb x with
    | none => rw [hk] at h; cases h
    | some k =>
      rw [hk] at h
      obtain ⟨r', h1, rfl⟩ := Option.map_eq_some_iff.1 h
      obtain ⟨h2, h3⟩ := kindsA_ok H mb l r' h1
      refine ⟨by simp only [List.map_cons, hk, Option.getD_some, h2], fun y hy => ?_⟩
      rcases List.mem_cons.1 hy with rfl | hy
      · rw [hk]; rfl
      · exact h3 y hy
/-- what is told, and what it leaves behind -/
def resV (H : AHeap) : List (Int × Int) → Value
  | [] => .slice none 0 0
  | p :: l => .slice (some ⟨H.next, 0, none⟩) (l.length + 1) 0
def resH (H : AHeap) : List (Int × Int) → AHeap
  | [] => H
  | p :: l => { H.add H.next (.row (kvCells (p :: l)) 30 2 true) with next := H.next + 1 }
/-- the objects under a map's keys -/
noncomputable def listFn (H : AHeap) (m mb : Nat) : Option (Value × AHeap) := match H.get m, H.get mb with
  | some (.map es ck), some (.map _ _) => match keysA es with
    | some xs => (kindsA H mb (sortI xs)).map fun l => (resV H l, resH H l)
    | none => none
  | _, _ => none
theorem look_same {P : Program} {t : TypeId} {mb : Nat} {k : Value} {ok : Bool} {H H' : AHeap} (h : H'.get mb = H.get mb) : aLookup P t (.map (some mb)) k ok H' = aLookup P t (.map (some mb)) k ok H := by
  simp only [aLookup, entriesOf, h]
end Go.Proofs.Ythnlkahgmbadoaa

set_option linter.unusedSimpArgs false
set_option linter.unusedVariables false
set_option maxRecDepth 100000
namespace Go.Proofs.Ythnlkahgmbadoaa
open Go.RowKit Go.Sort Go.MapKept

theorem clear_sort : Clear sortO := fun f hf => by
  unfold sortO
  cases hb : Nat.beq f 41 with
  | false => rfl
  | true =>
    have := Nat.eq_of_beq_eq_true hb
    subst this
    exact absurd (by decide) hf
theorem sort_is : sortO 41 = some sortFn := rfl
theorem mixed_ : Try.prog.follows .mixedOrders = true := by kernel_rfl
theorem wf_lt {H : AHeap} (hwf : WF H) {i : Nat} {o : AObj} (h : H.get i = some o) : i < H.next := by
  rcases Nat.lt_or_ge i H.next with h1 | h1
  · exact h1
  · rw [hwf i h1] at h; cases h
/-- a row that is put behind all that is there -/
theorem add_get (H : AHeap) (o : AObj) (i : Nat) : ({ H.add H.next o with next := H.next + 1 } : AHeap).get i = if i = H.next then some o else H.get i := AHeap.get_add H H.next o i
theorem kindAt_of {H : AHeap} (hwf : WF H) {mb cb : Nat} {eb : List MapEntry} (hmb : H.get mb = some (.map eb cb)) {x k : Int} (hk : kindA H mb x = some k) (o : AObj) : KindAt ({ H.add H.next o with next := H.next + 1 } : AHeap).objs mb eb cb H.next x k := by
  unfold kindA at hk
  split at hk
  · rename_i b hl
    split at hk
    · rename_i k' cells T z own hb
      cases hk
      have hlt := wf_lt hwf hb
      refine ⟨b, T, z, own, cells, hlt, ?_, fun H' hH' => ?_⟩
      · have := add_get H o b
        rw [if_neg (by omega), hb] at this
        exact this
      · rw [look_same (hH'.trans hmb.symm)]; exact hl
    · cases hk
  · cases hk

theorem values_world {β : Ren} {H : AHeap} {w0 W : World} (hr : Rel β H w0) (hwf : WF H) {hb mb cb : Nat} {c0 c1 c3 c4 c5 c6 : Value} {T z : Nat} {own : Bool} (hbr : H.get hb = some (.row [c0, c1, .map (some mb), c3, c4, c5, c6] T z own)) {eb : List MapEntry} (hmb : H.get mb = some (.map eb cb))
    {sh : Spot} (hsh : β hb = some sh) {xs ss : List Int} {l : List (Int × Int)} (hk : kindsA H mb (sortI xs) = some l) (hp : ss.Perm xs) (hl : xs.length ≤ 1000000) (hbW : Below w0.heap.size w0 W) {v : Value} (hrow : W.ownsRow w0.heap.size 3 1 v ss.length (ss.map zv)) (hnil : v = .slice none 0 0 ↔ ss = []) :
    Calls Try.prog 26 #[.pointer (some ⟨sh.blk, sh.shift + 0, none⟩), v] W fun e w' => ∃ v' β', e = .returned v' ∧ VR β' (resV H l) v' ∧ Goes β H w0 β' (resH H l) w' ∧ Ren.agree H.next β β' := by
  have hlen : ss.length = xs.length := hp.length_eq
  rw [← sortI_of_perm hp] at hk
  obtain ⟨hl1, hl2⟩ := kindsA_ok H mb _ _ hk
  have hrW := (goes_below hr hbW).rel
  by_cases hs : ss = []
  · subst hs
    obtain rfl := hnil.2 rfl
    have hl0 : l = [] := by rw [hl1]; rfl
    subst hl0
    have hcall := values_nil (O := sortO) (n := 0) (o := H.objs) (nx := H.next) (lg := H.log) clear_sort sort_is (some ⟨hb, 0, none⟩)
    have hsnd := (oCall_sound sortO_sound mixed_ _ _ _ _ _ _ hcall hwf).2 β W [.pointer (some ⟨sh.blk, sh.shift + 0, none⟩), .slice none 0 0] hrW (fun g hg => by cases hg) ⟨rfl, fun j x y hx hy => by
      match j, hx, hy with
      | 0, hx, hy => cases hx; cases hy; exact .ptr hsh
      | 1, hx, hy => cases hx; cases hy; exact .slice0
      | j + 2, hx, _ => simp at hx⟩
    refine hsnd.mono ?_
    rintro e w' ⟨v', β', rfl, h1, h2, h3⟩
    exact ⟨v', β', rfl, h1, (goes_below hr hbW).trans h2, h3⟩
  · rcases hrow.2 with ⟨rfl, _⟩ | ⟨g, cap, cur, rfl, hg, hc, hn, hcap, hcs, htk⟩
    · exact absurd (hnil.1 rfl) hs
    · have G2 := goes_row hr hbW hg hc hcs htk
      have h0 : 0 < ss.length := by
        cases ss with
        | nil => exact absurd rfl hs
        | cons x r => simp
      have hhb := wf_lt hwf hbr
      have hhm := wf_lt hwf hmb
      have a1 := add_get H (.row (ss.map zv) 3 1 true) hb
      rw [if_neg (by omega), hbr] at a1
      have a2 := add_get H (.row (ss.map zv) 3 1 true) mb
      rw [if_neg (by omega), hmb] at a2
      have a3 := add_get H (.row (ss.map zv) 3 1 true) H.next
      rw [if_pos rfl] at a3
      obtain ⟨⟨v3, H3⟩, hcall, j, o', nx', lg', hv3, hj, hj2, hrow3, hkeep⟩ := values_ok (O := sortO) (n := ss.length + 1) (o := ({ H.add H.next (.row (ss.map zv) 3 1 true) with next := H.next + 1 } : AHeap).objs) (nx := H.next + 1) (lg := H.log) (c := 0) (kf := fun x => (kindA H mb x).getD 0) clear_sort sort_is a1 a2 a3 hhb hhm (by omega) h0 (by omega) (by omega) (fun x hx => kindAt_of hwf hmb (hl2 x ((sortI_perm ss).symm.subset hx)) _)
      cases hv3
      have hwf2 : WF ({ H.add H.next (.row (ss.map zv) 3 1 true) with next := H.next + 1 } : AHeap) := fun i hi => by
        have hi : H.next + 1 ≤ i := hi
        rw [add_get, if_neg (by omega)]
        exact hwf i (by omega)
      have hsnd := (oCall_sound sortO_sound mixed_ _ _ _ _ _ _ hcall hwf2).2 _ W [.pointer (some ⟨sh.blk, sh.shift + 0, none⟩), .slice (some ⟨g, 0, none⟩) ss.length cap] G2.rel (fun g hg => by cases hg) ⟨rfl, fun j x y hx hy => by
        match j, hx, hy with
        | 0, hx, hy => cases hx; cases hy; exact .ptr (G2.le _ _ hsh)
        | 1, hx, hy =>
          cases hx; cases hy
          exact VR.slice (s := ⟨g, 0, 1, cap, true⟩) (Ren.put_same ..) hn hcap (.inr ⟨rfl, fun _ => by simp⟩)
        | j + 2, hx, _ => simp at hx⟩
      refine hsnd.mono ?_
      rintro e w' ⟨v', β', rfl, h1, h2, h3⟩
      have G := G2.trans h2
      have hls : (sortI ss).length = l.length := by rw [hl1, List.length_map]
      rw [← hl1] at hrow3
      have hln : l.length = ss.length := by rw [← hls, sortI_length]
      match l, hln with
      | [], hln => rw [← hln] at h0; exact absurd h0 (by decide)
      | p :: l, hln =>
        rw [hls] at h1
        cases h1 with
        | @slice _ _ _ _ c' s hsj hn' hm' hc' =>
          refine ⟨_, β.put H.next s, rfl, .slice (Ren.put_same ..) hn' hm' hc', goes_keepRow hr G (fun i hi => ?_) hrow3 hsj (by omega), fun i hi => Ren.put_other β s (by omega)⟩
          have := hkeep i (by omega) (by omega)
          refine this.trans ?_
          have a4 := add_get H (.row (ss.map zv) 3 1 true) i
          rw [if_neg (by omega)] at a4
          exact a4
end Go.Proofs.Ythnlkahgmbadoaa

set_option linter.unusedSimpArgs false
set_option linter.unusedVariables false
set_option maxRecDepth 100000
namespace Go.Proofs.Ythnlkahgmbadoaa
open Go.RowKit Go.Sort Go.MapKept

section
variable {O : Helps} {n : Nat}
set_option maxHeartbeats 4000000 in
theorem hright_any (hO : Clear O) {i m : Nat} {c0 c1 c3 c4 c5 c6 : Value} {e z : Nat} {own : Bool} : ∀ (o : Tr AObj) (nx : Nat) (lg : List Nat), o.get i = some (.row [c0, c1, .map (some m), c3, c4, c5, c6] e z own) → oCall Try.prog [] O (n + 1) 22 [.pointer (some ⟨i, 0, none⟩)] ⟨o, nx, lg⟩ = some (.bool true, ⟨o, nx, lg⟩) := by
  intro o nx lg h
  refine of_got ?_
  rw [y_fn (rs := [.tmp 2]) (hO _ (by decide)) Try.func22 rfl (by kernel_rfl) rfl rfl]
  repeat (first | with_reducible (first | refine n_on ?_ | refine n_seq ?_ | refine s_else ?_ | refine n_t ?_ | refine n_gt ?_ | refine d_t ?_ | refine n_nil ?_ | refine d_nil ?_ | refine n_block ?_ | refine n_skip ?_ | refine n_bon ?_ | refine n_bback ?_ | refine n_back ?_ | refine n_out ?_ | refine n_bout rfl ?_ | refine n_bfar rfl ?_ | refine n_ret ?_ | refine n_exit ?_ | refine n_label ?_ | refine n_scope ?_ | refine n_son ?_ | refine n_sback ?_) | (with_reducible (first | apply n_region | apply d_region); (simp only [JV, JU, JW, Nat.reduceAdd, Nat.zero_add]; exact rfl)) | (with_reducible (first | apply s_op | apply n_guard | apply n_cond | apply d_guard | apply d_op | apply n_fin | apply n_finb); (simp (maxDischargeDepth := 6) only [sy3.1, zY, qG, qP, qQ, qR, qS, qT, rowAt, ↓jg, ↓ji, Nat.reduceAdd, Nat.reduceEqDiff, ne_eq, jG, Nat.reduceLT, if_true, ite_true, Int.reduceLE, Int.reduceLT, Int.reduceEq, Int.reduceNeg, Int.reduceAdd, Nat.reduceSub, if_false, ite_false, fs_22.1, h, kind_pure, kind_load, kind_fresh, kind_other, jg, ji, undef]; first | exact rfl | exact ⟨rfl, rfl, rfl, rfl⟩); try (with_reducible refine calmK_in ?_; decide +kernel)))
  exact Ja (by rfl) (by rfl)
end
theorem right_walk {β : Ren} {H : AHeap} {w : World} (hr : Rel β H w) (hwf : WF H) {hb mb : Nat} {c0 c1 c3 c4 c5 c6 : Value} {T z : Nat} {own : Bool} (hbr : H.get hb = some (.row [c0, c1, .map (some mb), c3, c4, c5, c6] T z own)) {sh : Spot} (hsh : β hb = some sh) :
    Calls Try.prog 22 #[.pointer (some ⟨sh.blk, sh.shift, none⟩)] w fun e w' => e = .returned (.bool true) ∧ Goes β H w β H w' := by
  have hcall := hright_any (O := sortO) (n := 0) clear_sort H.objs H.next H.log hbr
  have hsnd := (oCall_sound sortO_sound mixed_ _ _ _ _ _ _ hcall hwf).2 β w [.pointer (some ⟨sh.blk, sh.shift, none⟩)] hr (fun g hg => by cases hg) ⟨rfl, fun j x y hx hy => by
    match j, hx, hy with
    | 0, hx, hy => cases hx; cases hy; exact .ptr (o := 0) hsh
    | j + 1, hx, _ => simp at hx⟩
  refine hsnd.mono ?_
  rintro e w' ⟨v', β', rfl, h1, h2, h3⟩
  cases h1
  exact ⟨rfl, h2.forget hr fun i o hi _ => hi⟩

set_option maxHeartbeats 2000000 in
theorem objects_walk {β : Ren} {H : AHeap} {w : World} (hr : Rel β H w) (hwf : WF H) {hb mb ck : Nat} {c0 c1 c3 c4 c5 c6 : Value} {T z : Nat} {own : Bool} (hbr : H.get hb = some (.row [c0, c1, .map (some mb), c3, c4, c5, c6] T z own)) {es : List MapEntry} (hmb : H.get mb = some (.map es ck))
    {sh : Spot} (hsh : β hb = some sh) {xs : List Int} {l : List (Int × Int)} (hx : keysA es = some xs) (hk : kindsA H mb (sortI xs) = some l) :
    Calls Try.prog 8 #[.pointer (some ⟨sh.blk, sh.shift, none⟩)] w fun e w' => ∃ v' β', e = .returned v' ∧ VR β' (resV H l) v' ∧ Goes β H w β' (resH H l) w' ∧ Ren.agree H.next β β' := by
  obtain ⟨b, q⟩ : ∃ x : Nat × Nat, x = (sh.blk, sh.shift) := ⟨_, rfl⟩
  have hK := keysA_ok hx
  have hc0 : ∀ w1, Goes β H w β H w1 → ∃ sm, β mb = some sm ∧ w1.cell? ⟨sh.blk, sh.shift + 2, none⟩ = some (.map (some sm.blk)) := fun w1 G1 => by
    obtain ⟨v', h1, h2⟩ := (G1.rel.obj _ _ _ hbr hsh).2.1 2 (.map (some mb)) rfl
    cases h2 with
    | @map _ s hs => exact ⟨s, hs, h1⟩
  obtain ⟨sm, hsm, _⟩ := hc0 w (.refl hr)
  have hc : ∀ w1, Goes β H w β H w1 → w1.cell? ⟨sh.blk, sh.shift + 2, none⟩ = some (.map (some sm.blk)) := fun w1 G1 => by
    obtain ⟨s, hs, h1⟩ := hc0 w1 G1
    rw [hsm] at hs; cases hs; exact h1
  have cR : CallsIn Fence.wide 5 Try.prog 22 #[.pointer (some ⟨sh.blk, sh.shift, none⟩)] w fun e w' => e = .returned (.bool true) ∧ Goes β H w β H w' := callsIn_wide.2 (right_walk hr hwf hbr hsh)
  have cK : ∀ m W, CallsIn Fence.wide 5 Try.prog 28 #[.map m] W fun e w' => e = .returned (.func (.func 43) #[] #[.pointer (some ⟨W.heap.size, 0, none⟩)]) ∧ w' = W.alloc (.cells #[.map m] 60) := fun m W => AnyZI.keys_in Try.keysO Fence.wide 5 trivial rfl m W
  have cC : ∀ w1, Goes β H w β H w1 → CallsIn Fence.wide 5 Try.prog 27 #[.func (.func 43) #[] #[.pointer (some ⟨w1.heap.size, 0, none⟩)]] (w1.alloc (.cells #[.map (some sm.blk)] 60)) fun e w' => ∃ (v : Value) (ss : List Int), e = .returned v ∧ ss.Perm xs ∧
      w'.ownsRow w1.heap.size 3 1 v ss.length (ss.map zv) ∧ (v = .slice none 0 0 ↔ ss = []) ∧ Below w1.heap.size w1 w' := fun w1 G1 => by
    obtain ⟨_, hB, es', h1, h2, h3⟩ := G1.rel.obj _ _ _ hmb hsm
    obtain ⟨h4, h5⟩ := keyed_world hK hB h2 h3
    exact collectedO h1 h4 h5 hK.wf hK.len
  have cV : ∀ w1, Goes β H w β H w1 → ∀ w3 v (ss : List Int), ss.Perm xs → w3.ownsRow w1.heap.size 3 1 v ss.length (ss.map zv) → (v = .slice none 0 0 ↔ ss = []) → Below w1.heap.size w1 w3 →
      CallsIn Fence.wide 5 Try.prog 26 #[.pointer (some ⟨sh.blk, sh.shift, none⟩), v] w3 fun e w' => ∃ v' β', e = .returned v' ∧ VR β' (resV H l) v' ∧ Goes β H w β' (resH H l) w' ∧ Ren.agree H.next β β' := fun w1 G1 w3 v ss hp hrow hnil hb3 => callsIn_wide.2 <| by
    refine (values_world G1.rel hwf hbr hmb hsh hk hp hK.len hb3 hrow hnil).mono ?_
    rintro e w' ⟨v', β', h1, h2, h3, h4⟩
    exact ⟨v', β', h1, h2, G1.trans h3, h4⟩
  have hf1 : Fence.wide.fn 22 := trivial
  have hf2 : Fence.wide.fn 28 := trivial
  have hf3 : Fence.wide.fn 27 := trivial
  have hf4 : Fence.wide.fn 26 := trivial
  clear hc0 hx hk
  generalize sh.blk = hB at *
  generalize sh.shift = hQ at *
  generalize sm.blk = hM at *
  refine (callsIn_wide (n := 6)).1 ?_
  refine callsIn_of_wp Try.func8 rfl trivial ?_ rfl
  simp only [Try.ntmps8, List.size_toArray, List.length_cons, List.length_nil, Nat.reduceAdd, Nat.reduceSub, Array.replicate_succ, Array.replicate_zero, List.push_toArray, List.append_toArray, List.nil_append, List.cons_append]
  gi_wp2_with (first
    | (gi_at_call 22; refine cR.mono ?_; rintro e w1 ⟨rfl, G1⟩; have hcell := hc w1 G1)
    | (gi_at_call 28; refine (cK _ _).mono ?_; rintro e w2 ⟨rfl, rfl⟩)
    | (gi_at_call 27; refine (cC _ (by assumption)).mono ?_; rintro e w3 ⟨v, ss, rfl, hp, hrow, hnil, hb3⟩)
    | (gi_at_call 26; refine (cV _ (by assumption) _ _ _ (by assumption) (by assumption) (by assumption) (by assumption)).mono ?_; rintro e w4 ⟨v', β', rfl, hv, hG, hA⟩))
  go_ret
  exact ⟨v', β', rfl, hv, hG, hA⟩
end Go.Proofs.Ythnlkahgmbadoaa

set_option linter.unusedSimpArgs false
set_option linter.unusedVariables false
set_option maxRecDepth 100000
namespace Go.Proofs.Ythnlkahgmbadoaa
open Go.RowKit Go.Sort Go.MapKept

noncomputable def objsFn : List Value → AHeap → Option (Value × AHeap)
  | [.pointer (some ⟨hb, 0, none⟩)], H => match H.get hb with
    | some (.row [_, _, .map (some mb), _, _, _, _] _ _ _) => match H.get mb with
      | some (.map es ck) => match keysA es with
        | some xs => (kindsA H mb (sortI xs)).map fun l => (resV H l, resH H l)
        | none => none
      | _ => none
    | _ => none
  | _, _ => none
theorem resH_log (H : AHeap) (l : List (Int × Int)) : LogLe H.next H (resH H l) := by
  cases l with
  | nil => exact .refl _ _
  | cons p l =>
    refine ⟨fun i hi _ => ?_, fun _ h => h, Nat.le_succ _, fun i hi h => ?_, fun hw i hi => ?_, fun i hi => .inl hi⟩
    · exact (add_get H _ i).trans (if_neg (by omega))
    · exact ((add_get H _ i).trans (if_neg (by omega))).trans h
    · have hi : H.next + 1 ≤ i := hi
      exact ((add_get H _ i).trans (if_neg (by omega))).trans (hw i (by omega))
theorem resH_old {H : AHeap} {i : Nat} (h : i < H.next) (l : List (Int × Int)) : (resH H l).get i = H.get i := by
  cases l with
  | nil => rfl
  | cons p l => exact (add_get H _ i).trans (if_neg (by omega))
noncomputable def oneHelp (f : FuncId) (g : List Value → AHeap → Option (Value × AHeap)) : Helps := fun k => cond (Nat.beq k f) (some g) none
theorem objs_sound : CallSound Try.prog [] (helpFn (oneHelp 8 objsFn)) := fun f args H v H' h hwf => by
  simp only [helpFn, oneHelp] at h
  cases hg : Nat.beq f 8 with
  | false => rw [hg] at h; cases h
  | true =>
    have hg := Nat.eq_of_beq_eq_true hg
    subst hg
    simp only [Nat.beq_refl, cond] at h
    unfold objsFn at h
    split at h
    · split at h
      · rename_i hbr
        split at h
        · rename_i hmb
          split at h
          · rename_i xs hx
            obtain ⟨l, hk, he⟩ := Option.map_eq_some_iff.1 h
            cases he
            refine ⟨resH_log H l, fun β w args' hr hglob hargs => ?_⟩
            obtain ⟨hl, ha⟩ := hargs
            match args', hl, ha with
            | [y], _, ha =>
              have h0 := ha 0 _ _ rfl rfl
              cases h0 with
              | @ptr _ _ sh hsh => exact objects_walk hr hwf hbr hmb hsh hx hk
          · cases h
        · cases h
      · cases h
    · cases h
theorem true_of_h {P : Program} {O : Helps} (ho : CallSound P [] (helpFn O)) (hm : P.follows .mixedOrders = true) (n : Nat) (f : FuncId) (args : List Value) (hf : args.all flat = true) (h : okTrue (oCall P [] O n f args emptyH) = true) (w : World) : Calls P f args.toArray w fun e w' => e = .returned (.bool true) ∧ Below w.heap.size w w' := by
  unfold okTrue at h
  split at h
  · rename_i H' hr
    obtain ⟨_, hs⟩ := oCall_sound ho hm n f args emptyH (.bool true) H' hr emptyH_wf
    refine (hs _ w args (emptyH_rel w) (fun g hg => (by cases hg)) ⟨rfl, fun j x y hx hy => ?_⟩).mono fun e w' hh => ?_
    · rw [hx] at hy; cases hy
      exact (flat_vr (List.all_eq_true.1 hf x (List.mem_of_getElem? hx)) _).1
    · obtain ⟨v', β', rfl, h1, h2, _⟩ := hh
      cases h1
      exact ⟨rfl, h2.below (fun i s hi => (by cases hi))⟩
  · cases h
end Go.Proofs.Ythnlkahgmbadoaa
