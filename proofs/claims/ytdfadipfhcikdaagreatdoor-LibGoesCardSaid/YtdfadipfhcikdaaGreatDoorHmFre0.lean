/- Heap: marks behind a call of the pool's. -/
import Derived.Test.YtdfadipfhcikdaaGreatDoorHmCel0
import Derived.Test.YtdfadipfhcikdaaGreatDoorPmRes
namespace Go.Proofs.YtdfadipfhcikdaaGreatDoor
open Go.RowKit
set_option linter.unusedSimpArgs false
set_option linter.unusedVariables false
set_option maxRecDepth 100000

def delK {K : Type} [DecidableEq K] (x : K) (kv : List (K × Value)) : List (K × Value) := match findK x kv 0 with
  | some (j, _) => kv.eraseIdx j
  | none => kv
theorem map_del {P : Program} {t mt el : TypeId} {K : Type} [DecidableEq K] {f : K → Value} (h : KeyBy P t f) (hm : P.underlying mt = some (.map t el)) {es : List MapEntry} {kv : List (K × Value)} (hi : MapIs f es kv) (i c : Nat) (x : K) :
    ∃ es', (∀ (o : Tr AObj) (nx : Nat) (lg : List Nat), o.get i = some (.map es c) → aDelete P mt (.map (some i)) (f x) ⟨o, nx, lg⟩ = some ⟨o.put i (some (.map es' c)), nx, noteId i lg⟩) ∧ MapIs f es' (delK x kv) := by
  unfold delK
  cases hn : findK x kv 0 with
  | none => exact ⟨es, fun o nx lg hg => by simp only [aDelete, hm, h.flat, cond, qH, hg, h.chk, findKey_by h x hi, hn]; rfl, hi⟩
  | some r =>
    obtain ⟨j, u⟩ := r
    refine ⟨es.eraseIdx j, fun o nx lg hg => by simp only [aDelete, hm, h.flat, cond, qH, hg, h.chk, findKey_by h x hi, hn]; rfl, ?_⟩
    unfold MapIs at hi ⊢
    simp only
    rw [map_erase, map_erase, hi]
theorem delK_map {α K : Type} [DecidableEq K] (k : α → K) (v : α → Value) (x : K) (l : List α) : delK x (l.map fun q => (k q, v q)) = (l.eraseP fun q => decide (k q = x)).map fun q => (k q, v q) := by
  have key : ∀ (l : List α) (i : Nat), (match findK x (l.map fun q => (k q, v q)) i with
      | some (j, _) => i ≤ j ∧ (l.map fun q => (k q, v q)).eraseIdx (j - i) = (l.eraseP fun q => decide (k q = x)).map fun q => (k q, v q)
      | none => (l.eraseP fun q => decide (k q = x)) = l) := by
    intro l
    induction l with
    | nil => intro i; rfl
    | cons q l ih =>
      intro i
      simp only [List.map_cons, findK]
      by_cases e : k q = x
      · rw [if_pos e.symm, List.eraseP_cons_of_pos (by simp [e])]
        simp
      · rw [if_neg (fun h => e h.symm), List.eraseP_cons_of_neg (by simp [e])]
        have := ih (i + 1)
        cases hf : findK x (l.map fun q => (k q, v q)) (i + 1) with
        | none => rw [hf] at this; simp only at this ⊢; rw [this]
        | some r =>
          obtain ⟨j, u⟩ := r
          rw [hf] at this
          simp only at this ⊢
          refine ⟨by omega, ?_⟩
          rw [show j - i = (j - (i + 1)) + 1 from by omega, List.eraseIdx_cons_succ, this.2, List.map_cons]
  have := key l 0
  unfold delK
  cases hf : findK x (l.map fun q => (k q, v q)) 0 with
  | none => rw [hf] at this; simp only at this ⊢; rw [this]
  | some r =>
    obtain ⟨j, u⟩ := r
    rw [hf] at this
    simp only at this ⊢
    exact this.2
section
variable {o : Tr AObj} {nx : Nat} {w : Nat → Nat} {B : HB} {hs : HS}
/-- a heap whose parts are turned -/
theorem HeapIn.of (h : HeapIn o nx w B hs) {o' : Tr AObj} {nx' : Nat} {w' : Nat → Nat} {a' b' : Option Nat} {bl' : Int → Nat} {hs' : HS} (hlt : ∀ x, w' x ≠ 0 → x < nx') (hold : ∀ x, w x ≠ 0 → w' x = w x) (ha : ∀ q, a' = some q → w' q = 3) (hb : ∀ q, b' = some q → w' q = 4)
    (hrow : ∃ z, o'.get B.i = some (.row (heapRow B hs') 50 z true)) (hP : PoolIn o' nx' B.p a' b' hs'.pool) (hall : ∃ es c, o'.get B.ma = some (.map es c) ∧ MapIs (Value.int .i64) es (objKV { B with bl := bl' } hs'.objs))
    (hobs : ∀ q ∈ hs'.objs, ObIn o' nx' w' q.1 (bl' q.1) q.2) (htx : ∃ es c, o'.get B.mt = some (.map es c) ∧ MapIs Value.string es (hs'.texts.map fun q => (q.1, .int .i64 q.2))) (hno : ∃ es c, o'.get B.mn = some (.map es c) ∧ MapIs (Value.int .i64) es (hs'.noted.map fun q => (q, .bool true))) :
    HeapIn o' nx' w' { B with a := a', b := b', bl := bl' } hs' := by
  have k : ∀ x n, w x = n + 1 → w' x = n + 1 := fun x n e => by rw [hold x (by omega)]; exact e
  exact ⟨hlt, k _ 0 h.wi, k _ 1 h.wp, ha, hb, k _ 4 h.wma, k _ 5 h.wmt, k _ 6 h.wmn, hrow, hP, hall, hobs, htx, hno⟩
/-- the marks of the pool's rows behind a call of the pool's -/
theorem markA_ok (h : HeapIn o nx w B hs) {o1 : Tr AObj} {nx1 : Nat} {a' b' : Option Nat} {P1 : PS} (hn : nx ≤ nx1) (hP1 : PoolIn o1 nx1 B.p a' b' P1) (ha : a' = B.a ∨ ∃ k, a' = some k ∧ nx ≤ k) (hb : b' = B.b ∨ ∃ k, b' = some k ∧ nx ≤ k) :
    (∀ x, markA nx w a' b' x ≠ 0 → x < nx1) ∧ (∀ x, w x ≠ 0 → markA nx w a' b' x = w x) ∧ (∀ q, a' = some q → markA nx w a' b' q = 3) ∧ (∀ q, b' = some q → markA nx w a' b' q = 4) := by
  refine ⟨fun x hx => ?_, fun x hx => markA_old (h.wlt x hx), fun q e => ?_, fun q e => ?_⟩
  · unfold markA at hx
    split at hx
    · split at hx
      · rename_i e; exact hP1.sz.lt e
      · split at hx
        · rename_i e; exact hP1.fr.lt e
        · exact absurd rfl hx
    · have := h.wlt x hx; omega
  · rcases ha with rfl | ⟨k, rfl, hk⟩
    · rw [markA_old (h.wlt q (by rw [h.wa q e]; decide))]; exact h.wa q e
    · cases e; unfold markA; rw [if_pos hk, if_pos rfl]
  · rcases hb with rfl | ⟨k, rfl, hk⟩
    · rw [markA_old (h.wlt q (by rw [h.wb q e]; decide))]; exact h.wb q e
    · cases e; unfold markA; rw [if_pos hk, if_neg (fun e2 => hP1.neab _ e2 rfl), if_pos rfl]
end
end Go.Proofs.YtdfadipfhcikdaaGreatDoor
