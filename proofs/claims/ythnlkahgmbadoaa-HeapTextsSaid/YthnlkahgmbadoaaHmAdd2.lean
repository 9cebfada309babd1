/- Heap: add, on the abstract machine. -/
import Derived.Test.YthnlkahgmbadoaaHmAdd
namespace Go.Proofs.Ythnlkahgmbadoaa
open Go.RowKit
set_option linter.unusedSimpArgs false
set_option linter.unusedVariables false
set_option maxRecDepth 100000

/-- what holds of every heap that New made, and its calls turned -/
structure HGood (hs : HS) : Prop where
  pool : Good hs.pool
  bound : hs.pool.bound = hs.max
  max : hs.max ≤ 16777216
  keys : (hs.objs.map (·.1)).Nodup
  ids : ∀ q ∈ hs.objs, hasP hs.pool q.1 = true
  cnt : hs.pool.count = hs.objs.length
  made0 : 0 ≤ hs.made
def serialK (k : Int) : Bool := decide (k = 5) || (decide (k = 6) || decide (k = 8))
def addO (hs : HS) (ob : Ob) (size : Int) : HS × VV × Int :=
  if hs.max < hs.pool.used + size then (hs, (0, 0), 152)
  else ({ hs with made := if serialK ob.kind = true then hs.made + 1 else hs.made, pool := (takeP hs.pool size).1, objs := hs.objs ++ [((takeP hs.pool size).2.1, { ob with serial := if serialK ob.kind = true then hs.made + 1 else ob.serial })], noted := noteL hs (takeP hs.pool size).2.1 }, (ob.kind, (takeP hs.pool size).2.1), 0)
theorem putK_new {B : HB} {d : Int} {l : List (Int × Ob)} (h : lookO l d = none) (b : Nat) (ob : Ob) : putK d (.pointer (some ⟨b, 0, none⟩)) (objKV B l) = objKV { B with bl := fun q => if q = d then b else B.bl q } (l ++ [(d, ob)]) := by
  unfold putK
  rcases kv_obj B d l 0 with ⟨_, h2⟩ | ⟨ob, r, h1, _⟩
  · rw [h2]
    simp only [objKV, List.map_append, List.map_cons, List.map_nil, if_true]
    congr 1
    refine List.map_congr_left fun q hq => ?_
    have : q.1 ≠ d := by
      intro e
      unfold lookO at h
      have := List.find?_eq_none.1 (Option.map_eq_none_iff.1 h) q hq
      simp [e] at this
    simp only [this, if_false]
  · rw [h] at h1; cases h1
section
variable {O : Helps} {n : Nat} {o : Tr AObj} {nx : Nat} {lg : List Nat} {w : Nat → Nat} {B : HB} {hs : HS}
theorem ObIn.serialed {o3 : Tr AObj} {nx3 : Nat} {w3 : Nat → Nat} {d : Int} {b : Nat} {ob : Ob} {s : Int} {tp sp : Option Addr} {ca : Option Nat} {cc zz : Nat} (h : ObIn o nx w d b ob) (hr : o.get b = some (.row (obRow ob tp sp ca cc) 72 zz true)) (hn : nx ≤ nx3)
    (h3 : o3.get b = some (.row (obRow { ob with serial := s } tp sp ca cc) 72 zz true)) (hk : ∀ x, x < nx → isOb w d x → x ≠ b → o3.get x = o.get x) (hw : ∀ x, x < nx → isOb w d x → w3 x = w x) : ObIn o3 nx3 w3 d b { ob with serial := s } := by
  obtain ⟨tp', sp', ca', cc', z', h1, h2, hcc, h4, h5⟩ := h.ex
  rw [h1] at hr
  simp only [Option.some.injEq, AObj.row.injEq, List.cons.injEq, Value.pointer.injEq, Value.slice.injEq, true_and, and_true] at hr
  obtain ⟨⟨rfl, ⟨e1, rfl⟩, rfl⟩, rfl⟩ := hr
  have e1 : ca' = ca := by
    cases ca' <;> cases ca <;> simp [slA] at e1
    · rfl
    · rw [e1]
  subst e1
  have hb := hw b h.lt ⟨by rw [h.own]; omega, by rw [h.own]; omega⟩
  have hca : ∀ q, ca' = some q → q < nx ∧ isOb w d q ∧ q ≠ b := fun q e => ⟨by
    rcases h2 with ⟨e2, _⟩ | ⟨j, _, e2, hj, _⟩
    · rw [e] at e2; cases e2
    · rw [e] at e2; cases e2; exact hj, by rw [isOb, h4 q e]; omega, fun e2 => by have := h4 q e; rw [e2, h.own] at this; omega⟩
  refine ⟨Nat.lt_of_lt_of_le h.lt hn, by rw [hb]; exact h.own, _, _, _, _, _, h3, h2.keep hn fun q e => hk q (hca q e).1 (hca q e).2.1 (hca q e).2.2, hcc, fun q e => by rw [hw q (hca q e).1 (hca q e).2.1]; exact h4 q e, fun hk5 => ?_⟩
  obtain ⟨ti, tm, ta, g1, g2, g3, g4, g5⟩ := h5 hk5
  have k1 : isOb w d ti ∧ ti ≠ b := ⟨by rw [isOb, g3]; omega, fun e2 => by have := g3; rw [e2, h.own] at this; omega⟩
  have k2 : isOb w d tm ∧ tm ≠ b := ⟨by rw [isOb, g4]; omega, fun e2 => by have := g4; rw [e2, h.own] at this; omega⟩
  have k3 : ∀ q, ta = some q → isOb w d q ∧ q ≠ b := fun q e => ⟨by rw [isOb, g5 q e]; omega, fun e2 => by have := g5 q e; rw [e2, h.own] at this; omega⟩
  refine ⟨ti, tm, ta, g1, g2.keep hn fun x hx => ?_, by rw [hw ti g2.lt k1.1]; exact g3, by rw [hw tm g2.ltm k2.1]; exact g4, fun q e => by rw [hw q (g2.mine_lt (.inr (.inr e))) (k3 q e).1]; exact g5 q e⟩
  rcases hx with rfl | rfl | hx
  · exact hk _ g2.lt k1.1 k1.2
  · exact hk _ g2.ltm k2.1 k2.2
  · exact hk _ (g2.mine_lt (.inr (.inr hx))) (k3 x hx).1 (k3 x hx).2
/-- the marks behind a new object: the pool's new rows are marked too -/
def markA (nx : Nat) (w1 : Nat → Nat) (a b : Option Nat) : Nat → Nat := fun x => if nx ≤ x then (if a = some x then 3 else if b = some x then 4 else 0) else w1 x
theorem markA_old {nx : Nat} {w1 : Nat → Nat} {a b : Option Nat} {x : Nat} (h : x < nx) : markA nx w1 a b x = w1 x := by unfold markA; rw [if_neg (by omega)]
theorem heap_added {o1 o3 : Tr AObj} {nx1 nx3 : Nat} {w1 : Nat → Nat} {a' b' : Option Nat} {P1 : PS} {d m : Int} {bo : Nat} {ob' : Ob} {z : Nat} {es' : List MapEntry} {c' : Nat}
    (h : HeapIn o nx w B hs) (hw1 : ∀ x, w x ≠ 0 → w1 x = w x) (hw1lt : ∀ x, w1 x ≠ 0 → x < nx) (hn : nx ≤ nx1) (hP1 : PoolIn o1 nx1 B.p a' b' P1) (hfr : ∀ x, x < nx → ¬ PMine B.p B.a B.b x → o1.get x = o.get x)
    (ha : a' = B.a ∨ ∃ k, a' = some k ∧ nx ≤ k) (hb : b' = B.b ∨ ∃ k, b' = some k ∧ nx ≤ k) (hn3 : nx1 ≤ nx3) (hnew : lookO hs.objs d = none) (hbo : w bo = 0)
    (hi3 : o3.get B.i = some (.row (heapRow B { hs with made := m }) 64 z true)) (ho3 : ObIn o3 nx3 (markA nx w1 a' b') d bo ob') (hma3 : o3.get B.ma = some (.map es' c')) (hmap3 : MapIs (Value.int .i64) es' (putK d (.pointer (some ⟨bo, 0, none⟩)) (objKV B hs.objs)))
    (hrest : ∀ x, x < nx1 → x ≠ B.i → x ≠ B.ma → x ≠ bo → o3.get x = o1.get x) :
    HeapIn o3 nx3 (markA nx w1 a' b') { B with a := a', b := b', bl := fun q => if q = d then bo else B.bl q } { hs with made := m, pool := P1, objs := hs.objs ++ [(d, ob')] } := by
  have old : ∀ x k, w x = k + 1 → markA nx w1 a' b' x = k + 1 := fun x k e => by
    rw [markA_old (h.wlt x (by omega)), hw1 x (by omega)]; exact e
  have hneb : ∀ x k, w x = k + 1 → x ≠ bo := fun x k e e2 => by rw [e2, hbo] at e; omega
  have hnp : ∀ x k, w x = k + 1 → k ≠ 1 → k ≠ 2 → k ≠ 3 → ¬ PMine B.p B.a B.b x := fun x k e h1 h2 h3 hm => by
    rcases hm with rfl | e2 | e2
    · rw [h.wp] at e; omega
    · rw [h.wa x e2] at e; omega
    · rw [h.wb x e2] at e; omega
  have hbolt : bo < nx := by
    have h5 := ho3.own
    by_cases hlt : bo < nx
    · exact hlt
    · exfalso
      unfold markA at h5
      rw [if_pos (by omega)] at h5
      split at h5
      · omega
      · split at h5 <;> omega
  have hp1 : ∀ x, PMine B.p a' b' x → x ≠ B.i ∧ x ≠ B.ma ∧ x ≠ bo := by
    have key : ∀ x k, w x = k + 1 → (k = 1 ∨ k = 2 ∨ k = 3) → x ≠ B.i ∧ x ≠ B.ma ∧ x ≠ bo := fun x k e hk => ⟨fun e2 => by rw [e2, h.wi] at e; omega, fun e2 => by rw [e2, h.wma] at e; omega, hneb x k e⟩
    have big : ∀ x, nx ≤ x → x ≠ B.i ∧ x ≠ B.ma ∧ x ≠ bo := fun x hx => ⟨fun e2 => by have := h.lt; omega, fun e2 => by have := h.wlt B.ma (by rw [h.wma]; decide); omega, fun e2 => by omega⟩
    rintro x (rfl | e | e)
    · exact key _ 1 h.wp (.inl rfl)
    · rcases ha with rfl | ⟨k, rfl, hk⟩
      · exact key _ 2 (h.wa x e) (.inr (.inl rfl))
      · cases e; exact big _ hk
    · rcases hb with rfl | ⟨k, rfl, hk⟩
      · exact key _ 3 (h.wb x e) (.inr (.inr rfl))
      · cases e; exact big _ hk
  have rest1 : ∀ x k, w x = k + 1 → k ≠ 0 → k ≠ 1 → k ≠ 2 → k ≠ 3 → k ≠ 4 → o3.get x = o.get x := fun x k e h0 h1 h2 h3 h4 => by
    have hx := h.wlt x (by omega)
    rw [hrest x (by omega) (fun e2 => by rw [e2, h.wi] at e; omega) (fun e2 => by rw [e2, h.wma] at e; omega) (hneb x k e)]
    exact hfr x hx (hnp x k e h1 h2 h3)
  obtain ⟨esT, cT, hmT, hmapT⟩ := h.texts
  obtain ⟨esN, cN, hmN, hmapN⟩ := h.noted
  have hneq : ∀ q ∈ hs.objs, q.1 ≠ d := fun q hq e => by
    unfold lookO at hnew
    have := List.find?_eq_none.1 (Option.map_eq_none_iff.1 hnew) q hq
    simp [e] at this
  refine ⟨fun x hx => ?_, old _ 0 h.wi, old _ 1 h.wp, fun q e => ?_, fun q e => ?_, old _ 4 h.wma, old _ 5 h.wmt, old _ 6 h.wmn, ⟨z, hi3⟩, hP1.keep hn3 fun x hx => ?_, ⟨es', c', hma3, ?_⟩, fun q hq => ?_, ⟨esT, cT, ?_, hmapT⟩, ⟨esN, cN, ?_, hmapN⟩⟩
  · unfold markA at hx
    split at hx
    · split at hx
      · rename_i e; have := hP1.sz.lt e; omega
      · split at hx
        · rename_i e; have := hP1.fr.lt e; omega
        · exact absurd rfl hx
    · have := hw1lt x hx; omega
  · rcases ha with rfl | ⟨k, rfl, hk⟩
    · exact old _ 2 (h.wa q e)
    · cases e; unfold markA; rw [if_pos hk, if_pos rfl]
  · rcases hb with rfl | ⟨k, rfl, hk⟩
    · exact old _ 3 (h.wb q e)
    · cases e; unfold markA; rw [if_pos hk, if_neg (fun e2 => hP1.neab _ e2 rfl), if_pos rfl]
  · obtain ⟨h1, h2, h3⟩ := hp1 x hx
    exact hrest x (hP1.mine_lt hx) h1 h2 h3
  · rw [← putK_new hnew bo ob']; exact hmap3
  · rcases List.mem_append.1 hq with hq | hq
    · simp only [hneq q hq, if_false]
      refine (h.obs q hq).keep (by omega) fun x hx hob => ?_
      have e := hob.1
      obtain ⟨k, hk⟩ : ∃ k, w x = k + 1 := ⟨w x - 1, by omega⟩
      refine ⟨rest1 x k hk (by omega) (by omega) (by omega) (by omega) (by omega), ?_⟩
      rw [old x k hk, hk]
    · simp only [List.mem_singleton] at hq
      subst hq
      simp only [if_true]; exact ho3
  · rw [rest1 _ 5 h.wmt (by decide) (by decide) (by decide) (by decide) (by decide)]; exact hmT
  · rw [rest1 _ 6 h.wmn (by decide) (by decide) (by decide) (by decide) (by decide)]; exact hmN
end
end Go.Proofs.Ythnlkahgmbadoaa
