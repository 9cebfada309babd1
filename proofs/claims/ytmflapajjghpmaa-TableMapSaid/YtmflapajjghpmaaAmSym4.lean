/- When two values are one, and what a map tells of a key, in the abstract machine. No program in sight. -/
import Derived.Test.YtmflapajjghpmaaAmSym3
namespace Go.Proofs.Ytmflapajjghpmaa
open Go.RowKit

theorem q_program (P : Program) {α : Type} (k : Program → Sem α) : qval P (.program k) = qval P (k P) := rfl
theorem q_map (P : Program) {α γ : Type} (f : α → γ) (x : Sem α) : qval P (f <$> x) = (qval P x).map f := by
  have : (f <$> x) = (x >>= fun a => pure (f a)) := rfl
  rw [this, qval_bind]
  cases qval P x <;> rfl
section
variable {P : Program}
theorem q_int (d : Nat) (t : TypeId) (k k' : IntKind) (a b : Int) (h : P.underlying t = some (.int k')) : qval P (Op.equalIn (d + 1) t (.int k a) (.int k b)) = some (decide (a = b)) := by
  simp only [Op.equalIn, qval_bind, qval_underlying h, Option.bind_some, if_true, qval_pure]
  rfl
theorem q_string (d : Nat) (t : TypeId) (a b : ByteArray) (h : P.underlying t = some .string) : qval P (Op.equalIn (d + 1) t (.string a) (.string b)) = some (a == b) := by
  simp only [Op.equalIn, qval_bind, qval_underlying h, Option.bind_some, qval_pure]
def qFields (P : Program) (d : Nat) (xs ys : Array Value) : List Field → Option Bool
  | [] => some true
  | f :: fs => if f.name ≠ "_" then (qval P (part f.type xs f.offset)).bind fun a => (qval P (part f.type ys f.offset)).bind fun b => (qval P (Op.equalIn d f.type a b)).bind fun r => cond r (qFields P d xs ys fs) (some false)
    else qFields P d xs ys fs
theorem q_struct (d : Nat) (t : TypeId) (xs ys : Array Value) (fs : Array Field) (ht : P.underlying t = some (.struct fs)) (hp : P.stoodInHeld t = false) :
    qval P (Op.equalIn (d + 1) t (.agg xs) (.agg ys)) = qFields P d xs ys fs.toList := by
  simp only [Op.equalIn, qval_bind, qval_underlying ht, Option.bind_some]
  have hq : qval P program = some P := rfl
  simp only [hq, Option.bind_some, hp, Bool.false_eq_true, if_false]
  rw [← Array.forIn_toList]
  generalize fs.toList = l
  clear ht
  induction l with
  | nil => rfl
  | cons f fs ih =>
    rw [qval_bind] at ih
    simp only [List.forIn_cons, qFields, qval_bind]
    split
    · simp only [qval_bind, Option.bind_assoc]
      cases qval P (part f.type xs f.offset) with
      | none => rfl
      | some a =>
        simp only [Option.bind_some]
        cases qval P (part f.type ys f.offset) with
        | none => rfl
        | some b =>
          simp only [Option.bind_some]
          cases qval P (Op.equalIn d f.type a b) with
          | none => rfl
          | some r => cases r with
            | false => rfl
            | true =>
              simp only [Option.bind_some, Bool.not_true, Bool.false_eq_true, if_false, qval_pure]
              exact ih
    · simp only [qval_pure, Option.bind_some]
      exact ih

end

/-! ### maps -/
/-- a map's entries are these keys and values -/
def MapIs {K : Type} (f : K → Value) (es : List MapEntry) (kv : List (K × Value)) : Prop := es.map (fun e => (e.key, e.val)) = kv.map fun p => (f p.1, p.2)
def findK {K : Type} [DecidableEq K] (x : K) : List (K × Value) → Nat → Option (Nat × Value)
  | [], _ => none
  | p :: l, i => if x = p.1 then some (i, p.2) else findK x l (i + 1)
/-- the model tells a type's keys from one another as they are told here -/
structure KeyBy (P : Program) (t : TypeId) {K : Type} [DecidableEq K] (f : K → Value) : Prop where
  chk : ∀ b x, qval P (Instr.checkKey b 10000 t (f x)) = some ()
  flat : ∀ x, flat2 (f x) = true
  bits : ∀ x, Instr.sameBits 10000 (f x) (f x) = true
  desc : ∃ d, P.underlying t = some d ∧ ((∀ x y, Instr.sameNow d (f x) (f y) = some (decide (x = y))) ∨ ((∀ x y, Instr.sameNow d (f x) (f y) = none) ∧ ∀ x y, qval P (Op.equal t (f x) (f y)) = some (decide (x = y))))
section
variable {P : Program} {t : TypeId} {K : Type} [DecidableEq K] {f : K → Value}
omit [DecidableEq K] in
theorem MapIs.cons {e : MapEntry} {es : List MapEntry} {kv : List (K × Value)} (h : MapIs f (e :: es) kv) : ∃ p l, kv = p :: l ∧ e.key = f p.1 ∧ e.val = p.2 ∧ MapIs f es l := by
  unfold MapIs at h
  cases kv with
  | nil => simp at h
  | cons p l =>
    simp only [List.map_cons, List.cons.injEq, Prod.mk.injEq] at h
    exact ⟨p, l, rfl, h.1.1, h.1.2, h.2⟩
omit [DecidableEq K] in
theorem MapIs.len {es : List MapEntry} {kv : List (K × Value)} (h : MapIs f es kv) : es.length = kv.length := by
  have := congrArg List.length h; simpa using this
theorem findNow_by {d : TypeDesc} (hs : ∀ x y, Instr.sameNow d (f x) (f y) = some (decide (x = y))) (x : K) : ∀ (es : List MapEntry) (kv : List (K × Value)) (i : Nat), MapIs f es kv → Instr.findNow d (f x) es i = some (findK x kv i)
  | [], kv, i, h => by
    cases kv with
    | nil => rfl
    | cons => simp [MapIs] at h
  | e :: es, kv, i, h => by
    obtain ⟨p, l, rfl, hk, hv, hl⟩ := h.cons
    simp only [Instr.findNow, hk, hs, findK]
    by_cases e1 : x = p.1
    · simp only [e1, decide_true, if_true, hv]
    · simp only [e1, decide_false, if_false]
      exact findNow_by hs x es l (i + 1) hl
theorem findAsking_by (hs : ∀ x y, qval P (Op.equal t (f x) (f y)) = some (decide (x = y))) (x : K) : ∀ (es : List MapEntry) (kv : List (K × Value)) (i : Nat), MapIs f es kv → qval P (Instr.findAsking t (f x) es i) = some (findK x kv i)
  | [], kv, i, h => by
    cases kv with
    | nil => rfl
    | cons => simp [MapIs] at h
  | e :: es, kv, i, h => by
    obtain ⟨p, l, rfl, hk, hv, hl⟩ := h.cons
    simp only [Instr.findAsking, qval_bind, hk, hs, Option.bind_some, findK]
    by_cases e1 : x = p.1
    · simp only [e1, decide_true, if_true, hv, qval_pure]
    · simp only [e1, decide_false, Bool.false_eq_true, if_false]
      exact findAsking_by hs x es l (i + 1) hl
theorem findKey_by (h : KeyBy P t f) (x : K) {es : List MapEntry} {kv : List (K × Value)} (hm : MapIs f es kv) : qval P (Instr.findKey t (f x) es) = some (findK x kv 0) := by
  obtain ⟨d, hd, hs⟩ := h.desc
  simp only [Instr.findKey, qval_bind, qval_underlying hd, Option.bind_some]
  rcases hs with hs | ⟨hn, hs⟩
  · simp only [findNow_by hs x es kv 0 hm, qval_pure]
  · cases es with
    | nil =>
      cases kv with
      | nil => rfl
      | cons => simp [MapIs] at hm
    | cons e es =>
      obtain ⟨p, l, rfl, hk, hv, hl⟩ := hm.cons
      simp only [Instr.findNow, hk, hn]
      exact findAsking_by hs x _ _ 0 hm
theorem map_erase {α γ : Type} (g : α → γ) : ∀ (l : List α) (j : Nat), (l.eraseIdx j).map g = (l.map g).eraseIdx j
  | [], _ => rfl
  | _ :: _, 0 => rfl
  | a :: l, j + 1 => by simp only [List.eraseIdx_cons_succ, List.map_cons, map_erase g l j]
def mapOf (H : AHeap) (i : Nat) : Option (List MapEntry × Nat) := match H.get i with
  | some (.map es c) => some (es, c)
  | _ => none
theorem aLookup_by (h : KeyBy P t f) {mt el : TypeId} {z : Value} (hm : P.underlying mt = some (.map t el)) (hz : zeroOf P el = some z) {H : AHeap} {i c : Nat} {es : List MapEntry} {kv : List (K × Value)} (hg : H.get i = some (.map es c)) (hi : MapIs f es kv) (x : K) (ok : Bool) :
    aLookup P mt (.map (some i)) (f x) ok H = some (match findK x kv 0 with
      | some (_, v) => cond ok (.tuple #[v, .bool true]) v
      | none => cond ok (.tuple #[z, .bool false]) z) := by
  unfold zeroOf at hz
  simp only [aLookup, hm, h.flat, cond, entriesOf, hg, h.chk, findKey_by h x hi]
  cases findK x kv 0 with
  | some r => rfl
  | none =>
    simp only
    split at hz
    · rename_i inf h1
      split at hz
      · rename_i z' h2
        cases h3 : flat2 z' with
        | false => rw [h3] at hz; cases hz
        | true => rw [h3] at hz; simp only [cond, Option.some.injEq] at hz; subst hz; simp only [h1, h2, h3, cond]
      · cases hz
    · cases hz
theorem findK_get (x : K) : ∀ (kv : List (K × Value)) (i j : Nat) (v : Value), findK x kv i = some (j, v) → ∃ k, j = i + k ∧ kv[k]? = some (x, v)
  | [], i, j, v, h => by cases h
  | p :: l, i, j, v, h => by
    unfold findK at h
    split at h
    · rename_i e; cases h; exact ⟨0, rfl, by simp [e]⟩
    · obtain ⟨k, rfl, hk⟩ := findK_get x l (i + 1) j v h
      exact ⟨k + 1, by omega, by simpa using hk⟩
theorem aMapUpdate_new (h : KeyBy P t f) {mt el : TypeId} (hm : P.underlying mt = some (.map t el)) {H : AHeap} {i c : Nat} {es : List MapEntry} {kv : List (K × Value)} (hg : H.get i = some (.map es c)) (hi : MapIs f es kv) (x : K) (v : Value) (hn : findK x kv 0 = none) :
    ∃ es', aMapUpdate P mt (.map (some i)) (f x) v H = some (H.upd i (some (.map es' (c + 1)))) ∧ MapIs f es' (kv ++ [(x, v)]) := by
  refine ⟨es ++ [{ key := f x, val := v, born := c }], ?_, ?_⟩
  · simp only [aMapUpdate, hm, h.flat, cond, hg, h.chk, findKey_by h x hi, hn]
  · unfold MapIs at hi ⊢
    rw [List.map_append, List.map_append, hi]; rfl
theorem aMapUpdate_old (h : KeyBy P t f) {mt el : TypeId} (hm : P.underlying mt = some (.map t el)) {H : AHeap} {i c : Nat} {es : List MapEntry} {kv : List (K × Value)} (hg : H.get i = some (.map es c)) (hi : MapIs f es kv) (x : K) (v : Value) {j : Nat} {u : Value} (hn : findK x kv 0 = some (j, u)) :
    ∃ es', aMapUpdate P mt (.map (some i)) (f x) v H = some (H.upd i (some (.map es' c))) ∧ MapIs f es' (kv.set j (x, v)) := by
  obtain ⟨k, hk, hx⟩ := findK_get x kv 0 j u hn
  rw [Nat.zero_add] at hk
  subst hk
  have hj : j < kv.length := (List.getElem?_eq_some_iff.1 hx).1
  have hje : j < es.length := by rw [hi.len]; exact hj
  have hkey : (es[j]).key = f x := by
    have h1 := congrArg (fun l : List (Value × Value) => l[j]?) hi
    simp only [List.getElem?_map, hx, Option.map_some, List.getElem?_eq_getElem hje, Option.some.injEq, Prod.mk.injEq] at h1
    exact h1.1
  refine ⟨es.set j { key := f x, val := v, born := (es[j]).born }, ?_, ?_⟩
  · simp only [aMapUpdate, hm, h.flat, cond, hg, h.chk, findKey_by h x hi, hn, List.getElem?_eq_getElem hje, hkey, h.bits]
  · unfold MapIs at hi ⊢
    rw [List.map_set, List.map_set, hi]
theorem aDelete_by (h : KeyBy P t f) {mt el : TypeId} (hm : P.underlying mt = some (.map t el)) {H : AHeap} {i c : Nat} {es : List MapEntry} {kv : List (K × Value)} (hg : H.get i = some (.map es c)) (hi : MapIs f es kv) (x : K) :
    ∃ es', aDelete P mt (.map (some i)) (f x) H = some (H.upd i (some (.map es' c))) ∧ MapIs f es' (match findK x kv 0 with
      | some (j, _) => kv.eraseIdx j
      | none => kv) := by
  cases hn : findK x kv 0 with
  | none => exact ⟨es, by simp only [aDelete, hm, h.flat, cond, hg, h.chk, findKey_by h x hi, hn], hi⟩
  | some r =>
    obtain ⟨j, u⟩ := r
    refine ⟨es.eraseIdx j, by simp only [aDelete, hm, h.flat, cond, hg, h.chk, findKey_by h x hi, hn], ?_⟩
    unfold MapIs at hi ⊢
    simp only
    rw [map_erase, map_erase, hi]
end
end Go.Proofs.Ytmflapajjghpmaa
