/- Heap: a map's key is struck; a heap whose parts are turned. -/
import Derived.Test.YthnlkahgmbadoaaHmStr
import Derived.Test.YthnlkahgmbadoaaHmGood0
import Derived.Test.YthnlkahgmbadoaaPmGive
import Derived.Test.YthnlkahgmbadoaaHmStore
namespace Go.Proofs.Ythnlkahgmbadoaa
open Go.RowKit
set_option linter.unusedSimpArgs false
set_option linter.unusedVariables false
set_option maxRecDepth 100000

def delK {K : Type} [DecidableEq K] (x : K) (kv : List (K × Value)) : List (K × Value) := match findK x kv 0 with
  | some (j, _) => kv.eraseIdx j
  | none => kv
theorem map_del {P : Program} {t mt el : TypeId} {K : Type} [DecidableEq K] {f : K → Value} (h : KeyBy P t f) (hm : P.underlying mt = some (.map t el)) {es : List MapEntry} {kv : List (K × Value)} (hi : MapIs f es kv) (i c : Nat) (x : K) :
    ∃ es', (∀ (o : Tr AObj) (nx : Nat) (lg : List Nat), o.get i = some (.map es c) → aDelete P mt (.map (some i)) (f x) ⟨o, nx, lg⟩ = some ⟨o.put i (some (.map es' c)), nx, noteId i lg⟩) ∧ MapIs f es' (delK x kv) := by
  unfold delK
  cases hn : findK x kv 0 with
  | none => exact ⟨es, fun o nx lg hg => by simp only [aDelete, hm, h.flat, cond, qH, hg, h.chk, findKey_by h x hi, hn]; rfl, hi⟩
  | some r =>
    obtain ⟨j, u⟩ := r
    refine ⟨es.eraseIdx j, fun o nx lg hg => by simp only [aDelete, hm, h.flat, cond, qH, hg, h.chk, findKey_by h x hi, hn]; rfl, ?_⟩
    unfold MapIs at hi ⊢
    simp only
    rw [map_erase, map_erase, hi]
theorem delK_map {α K : Type} [DecidableEq K] (k : α → K) (v : α → Value) (x : K) (l : List α) : delK x (l.map fun q => (k q, v q)) = (l.eraseP fun q => decide (k q = x)).map fun q => (k q, v q) := by
  have key : ∀ (l : List α) (i : Nat), (match findK x (l.map fun q => (k q, v q)) i with
      | some (j, _) => i ≤ j ∧ (l.map fun q => (k q, v q)).eraseIdx (j - i) = (l.eraseP fun q => decide (k q = x)).map fun q => (k q, v q)
      | none => (l.eraseP fun q => decide (k q = x)) = l) := by
    intro l
    induction l with
    | nil => intro i; rfl
    | cons q l ih =>
      intro i
      simp only [List.map_cons, findK]
      by_cases e : k q = x
      · rw [if_pos e.symm, List.eraseP_cons_of_pos (by simp [e])]
        simp
      · rw [if_neg (fun h => e h.symm), List.eraseP_cons_of_neg (by simp [e])]
        have := ih (i + 1)
        cases hf : findK x (l.map fun q => (k q, v q)) (i + 1) with
        | none => rw [hf] at this; simp only at this ⊢; rw [this]
        | some r =>
          obtain ⟨j, u⟩ := r
          rw [hf] at this
          simp only at this ⊢
          refine ⟨by omega, ?_⟩
          rw [show j - i = (j - (i + 1)) + 1 from by omega, List.eraseIdx_cons_succ, this.2, List.map_cons]
  have := key l 0
  unfold delK
  cases hf : findK x (l.map fun q => (k q, v q)) 0 with
  | none => rw [hf] at this; simp only at this ⊢; rw [this]
  | some r =>
    obtain ⟨j, u⟩ := r
    rw [hf] at this
    simp only at this ⊢
    exact this.2
section
variable {o : Tr AObj} {nx : Nat} {w : Nat → Nat} {B : HB} {hs : HS}
/-- a heap whose parts are turned -/
theorem HeapIn.of (h : HeapIn o nx w B hs) {o' : Tr AObj} {nx' : Nat} {w' : Nat → Nat} {a' b' : Option Nat} {bl' : Int → Nat} {hs' : HS} (hlt : ∀ x, w' x ≠ 0 → x < nx') (hold : ∀ x, w x ≠ 0 → w' x = w x) (ha : ∀ q, a' = some q → w' q = 3) (hb : ∀ q, b' = some q → w' q = 4)
    (hrow : ∃ z, o'.get B.i = some (.row (heapRow B hs') 64 z true)) (hP : PoolIn o' nx' B.p a' b' hs'.pool) (hall : ∃ es c, o'.get B.ma = some (.map es c) ∧ MapIs (Value.int .i64) es (objKV { B with bl := bl' } hs'.objs))
    (hobs : ∀ q ∈ hs'.objs, ObIn o' nx' w' q.1 (bl' q.1) q.2) (htx : ∃ es c, o'.get B.mt = some (.map es c) ∧ MapIs Value.string es (hs'.texts.map fun q => (q.1, .int .i64 q.2))) (hno : ∃ es c, o'.get B.mn = some (.map es c) ∧ MapIs (Value.int .i64) es (hs'.noted.map fun q => (q, .bool true))) :
    HeapIn o' nx' w' { B with a := a', b := b', bl := bl' } hs' := by
  have k : ∀ x n, w x = n + 1 → w' x = n + 1 := fun x n e => by rw [hold x (by omega)]; exact e
  exact ⟨hlt, k _ 0 h.wi, k _ 1 h.wp, ha, hb, k _ 4 h.wma, k _ 5 h.wmt, k _ 6 h.wmn, hrow, hP, hall, hobs, htx, hno⟩
/-- the marks of the pool's rows behind a call of the pool's -/
theorem markA_ok (h : HeapIn o nx w B hs) {o1 : Tr AObj} {nx1 : Nat} {a' b' : Option Nat} {P1 : PS} (hn : nx ≤ nx1) (hP1 : PoolIn o1 nx1 B.p a' b' P1) (ha : a' = B.a ∨ ∃ k, a' = some k ∧ nx ≤ k) (hb : b' = B.b ∨ ∃ k, b' = some k ∧ nx ≤ k) :
    (∀ x, markA nx w a' b' x ≠ 0 → x < nx1) ∧ (∀ x, w x ≠ 0 → markA nx w a' b' x = w x) ∧ (∀ q, a' = some q → markA nx w a' b' q = 3) ∧ (∀ q, b' = some q → markA nx w a' b' q = 4) := by
  refine ⟨fun x hx => ?_, fun x hx => markA_old (h.wlt x hx), fun q e => ?_, fun q e => ?_⟩
  · unfold markA at hx
    split at hx
    · split at hx
      · rename_i e; exact hP1.sz.lt e
      · split at hx
        · rename_i e; exact hP1.fr.lt e
        · exact absurd rfl hx
    · have := h.wlt x hx; omega
  · rcases ha with rfl | ⟨k, rfl, hk⟩
    · rw [markA_old (h.wlt q (by rw [h.wa q e]; decide))]; exact h.wa q e
    · cases e; unfold markA; rw [if_pos hk, if_pos rfl]
  · rcases hb with rfl | ⟨k, rfl, hk⟩
    · rw [markA_old (h.wlt q (by rw [h.wb q e]; decide))]; exact h.wb q e
    · cases e; unfold markA; rw [if_pos hk, if_neg (fun e2 => hP1.neab _ e2 rfl), if_pos rfl]
end
end Go.Proofs.Ythnlkahgmbadoaa

namespace Go.Proofs.Ythnlkahgmbadoaa
open Go.RowKit
set_option linter.unusedSimpArgs false
set_option linter.unusedVariables false
set_option maxRecDepth 100000

def freeH (hs : HS) (d : Int) (ob : Ob) : HS := { hs with pool := (giveP hs.pool d).1, objs := hs.objs.eraseP (fun q => decide (q.1 = d)), texts := if ob.kind = 4 then hs.texts.eraseP (fun q => decide (q.1 = ob.text)) else hs.texts, noted := hs.noted.eraseP (fun q => decide (q = d)) }
def freeO (hs : HS) (v : VV) : HS × Int := match findO hs v with
  | none => (hs, 151)
  | some ob => (freeH hs v.2 ob, (giveP hs.pool v.2).2)
section
variable {O : Helps} {n : Nat} {o : Tr AObj} {nx : Nat} {lg : List Nat} {w : Nat → Nat} {B : HB} {hs : HS}
/-- a heap that an object has left -/
theorem HeapIn.freed (h : HeapIn o nx w B hs) {d : Int} {ob : Ob} {o3 : Tr AObj} {nx3 : Nat} {a' b' : Option Nat} {es' est' esn' : List MapEntry} {c ct cn : Nat} (hn : nx ≤ nx3) (hP : PoolIn o3 nx3 B.p a' b' (giveP hs.pool d).1) (ha : a' = B.a ∨ ∃ k, a' = some k ∧ nx ≤ k) (hb : b' = B.b ∨ ∃ k, b' = some k ∧ nx ≤ k)
    (h1 : o3.get B.ma = some (.map es' c)) (h1' : MapIs (Value.int .i64) es' (objKV B (freeH hs d ob).objs)) (h2 : o3.get B.mt = some (.map est' ct)) (h2' : MapIs Value.string est' ((freeH hs d ob).texts.map fun q => (q.1, .int .i64 q.2))) (h3 : o3.get B.mn = some (.map esn' cn)) (h3' : MapIs (Value.int .i64) esn' ((freeH hs d ob).noted.map fun q => (q, .bool true)))
    (hk : ∀ x, w x ≠ 0 → w x ≠ 2 → w x ≠ 3 → w x ≠ 4 → w x ≠ 5 → w x ≠ 6 → w x ≠ 7 → o3.get x = o.get x) : HeapIn o3 nx3 (markA nx w a' b') { B with a := a', b := b' } (freeH hs d ob) := by
  obtain ⟨z, hr⟩ := h.row
  obtain ⟨k1, k2, k3, k4⟩ := markA_ok h hn hP ha hb
  refine h.of (bl' := B.bl) k1 k2 k3 k4 ⟨z, ?_⟩ hP ⟨es', c, h1, h1'⟩ (fun q hq => ?_) ⟨est', ct, h2, h2'⟩ ⟨esn', cn, h3, h3'⟩
  · rw [hk _ (by rw [h.wi]; decide) (by rw [h.wi]; decide) (by rw [h.wi]; decide) (by rw [h.wi]; decide) (by rw [h.wi]; decide) (by rw [h.wi]; decide) (by rw [h.wi]; decide)]; exact hr
  · refine (h.obs q (List.mem_of_mem_eraseP hq)).keep hn fun x hx hob => ?_
    have := hob.1
    exact ⟨hk x (by omega) (by omega) (by omega) (by omega) (by omega) (by omega) (by omega), k2 x (by omega)⟩
set_option maxHeartbeats 32000000 in
theorem free_ok (hO : Clear O) (h : HeapIn o nx w B hs) (hG : HGood hs) (v : VV) (hn : hs.pool.sizes.length < n) :
    Got (oCall Try.prog [] O (n + 4) 12 [.pointer (some ⟨B.i, 0, none⟩), .agg #[.int .u8 v.1, .int .i64 v.2]] ⟨o, nx, lg⟩) (HTo o nx lg w B hs (freeO hs v).1 (.int .i64 (freeO hs v).2)) := by
  obtain ⟨z, hr⟩ := h.row
  have hi := h.lt
  have hright := hright_ok (n := n + 2) (i := B.i) (m := B.ma) (p := B.p) (c0 := .int .i64 hs.max) (c3 := .map (some B.mt)) (c4 := .int .i64 hs.made) (c5 := .bool hs.watch) (c6 := .map (some B.mn)) (e := 64) (z := z) (own := true) hO
  have hfind := fun (X : AObj) (q : Nat) (lg : List Nat) => find_ok (n := n + 1) (lg := lg) hO (more1 h (some X) q) v
  unfold freeO foundV at *
  rw [y_fn (rs := [.tmp 4]) (hO _ (by decide)) Try.func12 rfl (by kernel_rfl) rfl rfl]
  cases hf : findO hs v with
  | none =>
    rw [hf] at hfind
    repeat (first | with_reducible (first | refine n_on ?_ | refine n_seq ?_ | refine s_else ?_ | refine n_t ?_ | refine n_gt ?_ | refine d_t ?_ | refine n_nil ?_ | refine d_nil ?_ | refine n_block ?_ | refine n_skip ?_ | refine n_bon ?_ | refine n_bback ?_ | refine n_back ?_ | refine n_out ?_ | refine n_bout rfl ?_ | refine n_bfar rfl ?_ | refine n_ret ?_ | refine n_exit ?_ | refine n_label ?_ | refine n_scope ?_ | refine n_son ?_ | refine n_sback ?_) | (with_reducible (first | apply n_region | apply d_region); (simp only [JV, JU, JW, Nat.reduceAdd, Nat.zero_add]; exact rfl)) | (with_reducible (first | apply s_op | apply n_guard | apply n_cond | apply d_guard | apply d_op | apply n_fin | apply n_finb); (simp (maxDischargeDepth := 6) only [sy3.1, zY, qG, qP, qQ, qR, qS, qT, rowAt, ↓jg, ↓ji, Nat.reduceAdd, Nat.reduceEqDiff, ne_eq, jG, Nat.reduceLT, if_true, ite_true, Int.reduceLE, Int.reduceLT, Int.reduceEq, Int.reduceNeg, Int.reduceAdd, Nat.reduceSub, if_false, ite_false, fs_12.1, heapRow, hr, hi, hright, hfind, ptr0_eql, kind_pure, kind_load, kind_fresh, kind_other, jg, ji, undef]; first | exact rfl | exact ⟨rfl, rfl, rfl, rfl⟩); try (with_reducible refine calmK_in ?_; decide +kernel)))
    exact quiet_end (by simp only [all_relogL, js, ju, List.all_nil, jt, Bool.and_self]) (by rfl) (.same h _)
  | some ob =>
    rw [hf] at hfind
    obtain ⟨hm, hkd⟩ := found_in hf
    have hob := h.obs _ hm
    obtain ⟨tp, sp, ca, cc, zz, hro, _⟩ := hob.ex
    have hbl := hob.lt
    simp only at hro hbl
    obtain ⟨es, c, hma, hmap⟩ := h.all
    obtain ⟨est, ct, hmt, hmapt⟩ := h.texts
    obtain ⟨esn, cn, hmn, hmapn⟩ := h.noted
    have halt := h.wlt B.ma (by rw [h.wma]; decide)
    have htlt := h.wlt B.mt (by rw [h.wmt]; decide)
    have hnlt := h.wlt B.mn (by rw [h.wmn]; decide)
    have hplt := h.wlt B.p (by rw [h.wp]; decide)
    obtain ⟨es', hd1, hmap'⟩ := map_del key_int Try.underlying60 hmap B.ma c v.2
    obtain ⟨est', hd2, hmapt'⟩ := map_del key_str Try.underlying61 hmapt B.mt ct ob.text
    obtain ⟨esn', hd3, hmapn'⟩ := map_del key_int Try.underlying62 hmapn B.mn cn v.2
    rw [show objKV B hs.objs = hs.objs.map (fun q => (q.1, (.pointer (some ⟨B.bl q.1, 0, none⟩) : Value))) from rfl, delK_map] at hmap'
    rw [delK_map] at hmapt'
    rw [show (hs.noted.map fun q => (q, (.bool true : Value))) = hs.noted.map (fun q => (id q, (.bool true : Value))) from rfl, delK_map id (fun _ => .bool true)] at hmapn'
    have n1 : B.i ≠ B.ma := fun e => by have := h.wi; rw [e, h.wma] at this; cases this
    have n2 : B.i ≠ B.mt := fun e => by have := h.wi; rw [e, h.wmt] at this; cases this
    have n3 : B.i ≠ B.mn := fun e => by have := h.wi; rw [e, h.wmn] at this; cases this
    have n4 : B.ma ≠ B.mt := fun e => by have := h.wma; rw [e, h.wmt] at this; cases this
    have n5 : B.ma ≠ B.mn := fun e => by have := h.wma; rw [e, h.wmn] at this; cases this
    have n6 : B.mt ≠ B.mn := fun e => by have := h.wmt; rw [e, h.wmn] at this; cases this
    have m1 := n1.symm; have m2 := n2.symm; have m3 := n3.symm; have m4 := n4.symm; have m5 := n5.symm; have m6 := n6.symm
    have o1 : B.bl v.2 ≠ B.mt := fun e => by have := hob.own; simp only at this; rw [e, h.wmt] at this; omega
    have o2 := o1.symm
    have hwnx : ∀ x, nx ≤ x → w x = 0 := fun x hx => by
      by_cases e : w x = 0
      · exact e
      · have := h.wlt x e; omega
    have hpk : ∀ x, PMine B.p B.a B.b x → w x = 2 ∨ w x = 3 ∨ w x = 4 := fun x hx => by
      rcases hx with rfl | e | e
      · exact .inl h.wp
      · exact .inr (.inl (h.wa x e))
      · exact .inr (.inr (h.wb x e))
    have hpne : ∀ x, PMine B.p B.a B.b x → x < nx ∧ x ≠ B.ma ∧ x ≠ B.mt ∧ x ≠ B.mn := fun x hx => by
      have hp := hpk x hx
      refine ⟨h.wlt x (by omega), fun e => ?_, fun e => ?_, fun e => ?_⟩
      · rw [e, h.wma] at hp; omega
      · rw [e, h.wmt] at hp; omega
      · rw [e, h.wmn] at hp; omega
    simp only
    by_cases hk : ob.kind = 4
    · repeat (first | with_reducible (first | refine n_on ?_ | refine n_seq ?_ | refine s_else ?_ | refine n_t ?_ | refine n_gt ?_ | refine d_t ?_ | refine n_nil ?_ | refine d_nil ?_ | refine n_block ?_ | refine n_skip ?_ | refine n_bon ?_ | refine n_bback ?_ | refine n_back ?_ | refine n_out ?_ | refine n_bout rfl ?_ | refine n_bfar rfl ?_ | refine n_ret ?_ | refine n_exit ?_ | refine n_label ?_ | refine n_scope ?_ | refine n_son ?_ | refine n_sback ?_) | (with_reducible (first | apply n_region | apply d_region); (simp only [JV, JU, JW, Nat.reduceAdd, Nat.zero_add]; exact rfl)) | (with_reducible (first | apply s_op | apply n_guard | apply n_cond | apply d_guard | apply d_op | apply n_fin | apply n_finb); (simp (maxDischargeDepth := 6) only [sy3.1, zY, qG, qP, qQ, qR, qS, qT, rowAt, ↓jg, ↓ji, Nat.reduceAdd, Nat.reduceEqDiff, ne_eq, jG, Nat.reduceLT, if_true, ite_true, Int.reduceLE, Int.reduceLT, Int.reduceEq, Int.reduceNeg, Int.reduceAdd, Nat.reduceSub, if_false, ite_false, fs_12.1, heapRow, obRow, hr, hi, hright, hfind, hro, hbl, decide_eq_true hk, hma, hmt, hmn, st_delete, hd1, hd2, hd3, halt, htlt, hnlt, n1, n2, n3, n4, n5, n6, m1, m2, m3, m4, m5, m6, o1, o2, ptr0_eql, kind_pure, kind_load, kind_fresh, kind_other, jg, ji, undef]; first | exact rfl | exact ⟨rfl, rfl, rfl, rfl⟩); try (with_reducible refine calmK_in ?_; decide +kernel)))
      refine s_do _ (by
        simp (maxDischargeDepth := 6) only [sy3.1, zY, qG, qP, qQ, qR, qS, qT, rowAt, ↓jg, ↓ji, Nat.reduceAdd, Nat.reduceEqDiff, ne_eq, jG, Nat.reduceLT, if_true, ite_true, Int.reduceLE, Int.reduceLT, Int.reduceEq, Int.reduceNeg, Int.reduceAdd, Nat.reduceSub, if_false, ite_false, fs_12.1, heapRow, hr, hi, n1, n2, n3, n4, n5, n6, m1, m2, m3, m4, m5, m6]
        exact pgive_ok hO (h.pool.keep (by omega) fun x hx => by
          obtain ⟨p1, p2, p3, p4⟩ := hpne x hx
          (repeat (first | rw [qE] | rw [qF _ _ _ _ (by omega)]))) hG.pool v.2 hn) ?_
      rintro v1 H1 ⟨o3, nx3, lg3, a', b', heq, hn3, hP3, hfr3, ha3, hb3, hmo3, _⟩
      cases heq
      repeat (first | with_reducible (first | refine n_on ?_ | refine n_seq ?_ | refine s_else ?_ | refine n_t ?_ | refine n_gt ?_ | refine d_t ?_ | refine n_nil ?_ | refine d_nil ?_ | refine n_block ?_ | refine n_skip ?_ | refine n_bon ?_ | refine n_bback ?_ | refine n_back ?_ | refine n_out ?_ | refine n_bout rfl ?_ | refine n_bfar rfl ?_ | refine n_ret ?_ | refine n_exit ?_ | refine n_label ?_ | refine n_scope ?_ | refine n_son ?_ | refine n_sback ?_) | (with_reducible (first | apply n_region | apply d_region); (simp only [JV, JU, JW, Nat.reduceAdd, Nat.zero_add]; exact rfl)) | (with_reducible (first | apply s_op | apply n_guard | apply n_cond | apply d_guard | apply d_op | apply n_fin | apply n_finb); (simp (maxDischargeDepth := 6) only [sy3.1, zY, qG, qP, qQ, qR, qS, qT, rowAt, ↓jg, ↓ji, Nat.reduceAdd, Nat.reduceEqDiff, ne_eq, jG, Nat.reduceLT, if_true, ite_true, Int.reduceLE, Int.reduceLT, Int.reduceEq, Int.reduceNeg, Int.reduceAdd, Nat.reduceSub, if_false, ite_false, fs_12.1, heapRow, kind_pure, kind_load, kind_fresh, kind_other, jg, ji, undef]; first | exact rfl | exact ⟨rfl, rfl, rfl, rfl⟩); try (with_reducible refine calmK_in ?_; decide +kernel)))
      have hnp : ∀ x, w x ≠ 2 → w x ≠ 3 → w x ≠ 4 → ¬ PMine B.p B.a B.b x := fun x a b c e => by have := hpk x e; omega
      refine hto_end h (w' := markA nx w a' b') (B' := { B with a := a', b := b' }) (by rfl) (h.freed (es' := es') (est' := est') (esn' := esn') (c := c) (ct := ct) (cn := cn) (by omega) (hP3.keep (by omega) fun _ _ => rfl) (ha3.imp id fun ⟨k, e, hk⟩ => ⟨k, e, by omega⟩) (hb3.imp id fun ⟨k, e, hk⟩ => ⟨k, e, by omega⟩) ?_ hmap' ?_ ?_ ?_ hmapn' fun x h0 h2 h3 h4 h5 h6 h7 => ?_) (by omega) rfl (fun x hx hw0 => ⟨?_, ?_⟩) (.inl ⟨B.ma, ?_, by rw [h.wma]; decide⟩)
      · rw [hfr3 _ (by omega) (hnp _ (by rw [h.wma]; decide) (by rw [h.wma]; decide) (by rw [h.wma]; decide))]; (repeat (first | rw [qE] | rw [qF _ _ _ _ (by omega)]))
      · rw [hfr3 _ (by omega) (hnp _ (by rw [h.wmt]; decide) (by rw [h.wmt]; decide) (by rw [h.wmt]; decide))]; (repeat (first | rw [qE] | rw [qF _ _ _ _ (by omega)]))
      · unfold freeH; rw [if_pos hk]; exact hmapt'
      · rw [hfr3 _ (by omega) (hnp _ (by rw [h.wmn]; decide) (by rw [h.wmn]; decide) (by rw [h.wmn]; decide))]; (repeat (first | rw [qE] | rw [qF _ _ _ _ (by omega)]))
      · have hx := h.wlt x h0
        have e1 : x ≠ B.ma := fun e => h5 (by rw [e]; exact h.wma)
        have e2 : x ≠ B.mn := fun e => h7 (by rw [e]; exact h.wmn)
        have e3 : x ≠ B.mt := fun e => h6 (by rw [e]; exact h.wmt)
        rw [hfr3 _ (by omega) (hnp _ h2 h3 h4)]; (repeat (first | rw [qE] | rw [qF _ _ _ _ (by omega)]))
      · have e1 : x ≠ B.ma := fun e => by rw [e, h.wma] at hw0; cases hw0
        have e2 : x ≠ B.mn := fun e => by rw [e, h.wmn] at hw0; cases hw0
        have e3 : x ≠ B.mt := fun e => by rw [e, h.wmt] at hw0; cases hw0
        rw [hfr3 _ (by omega) (hnp _ (by omega) (by omega) (by omega))]; (repeat (first | rw [qE] | rw [qF _ _ _ _ (by omega)]))
      · rw [markA_old hx]; exact hw0
      · exact hmo3 _ (by simp only [in_relogL, in_note, true_or, or_true])
    · repeat (first | with_reducible (first | refine n_on ?_ | refine n_seq ?_ | refine s_else ?_ | refine n_t ?_ | refine n_gt ?_ | refine d_t ?_ | refine n_nil ?_ | refine d_nil ?_ | refine n_block ?_ | refine n_skip ?_ | refine n_bon ?_ | refine n_bback ?_ | refine n_back ?_ | refine n_out ?_ | refine n_bout rfl ?_ | refine n_bfar rfl ?_ | refine n_ret ?_ | refine n_exit ?_ | refine n_label ?_ | refine n_scope ?_ | refine n_son ?_ | refine n_sback ?_) | (with_reducible (first | apply n_region | apply d_region); (simp only [JV, JU, JW, Nat.reduceAdd, Nat.zero_add]; exact rfl)) | (with_reducible (first | apply s_op | apply n_guard | apply n_cond | apply d_guard | apply d_op | apply n_fin | apply n_finb); (simp (maxDischargeDepth := 6) only [sy3.1, zY, qG, qP, qQ, qR, qS, qT, rowAt, ↓jg, ↓ji, Nat.reduceAdd, Nat.reduceEqDiff, ne_eq, jG, Nat.reduceLT, if_true, ite_true, Int.reduceLE, Int.reduceLT, Int.reduceEq, Int.reduceNeg, Int.reduceAdd, Nat.reduceSub, if_false, ite_false, fs_12.1, heapRow, obRow, hr, hi, hright, hfind, hro, hbl, decide_eq_false hk, hma, hmt, hmn, st_delete, hd1, hd2, hd3, halt, htlt, hnlt, n1, n2, n3, n4, n5, n6, m1, m2, m3, m4, m5, m6, o1, o2, kind_pure, kind_load, kind_fresh, kind_other, jg, ji, undef]; first | exact rfl | exact ⟨rfl, rfl, rfl, rfl⟩); try (with_reducible refine calmK_in ?_; decide +kernel)))
      refine s_do _ (by
        simp (maxDischargeDepth := 6) only [sy3.1, zY, qG, qP, qQ, qR, qS, qT, rowAt, ↓jg, ↓ji, Nat.reduceAdd, Nat.reduceEqDiff, ne_eq, jG, Nat.reduceLT, if_true, ite_true, Int.reduceLE, Int.reduceLT, Int.reduceEq, Int.reduceNeg, Int.reduceAdd, Nat.reduceSub, if_false, ite_false, fs_12.1, heapRow, hr, hi, n1, n2, n3, n4, n5, n6, m1, m2, m3, m4, m5, m6]
        exact pgive_ok hO (h.pool.keep (by omega) fun x hx => by
          obtain ⟨p1, p2, p3, p4⟩ := hpne x hx
          (repeat (first | rw [qE] | rw [qF _ _ _ _ (by omega)]))) hG.pool v.2 hn) ?_
      rintro v1 H1 ⟨o3, nx3, lg3, a', b', heq, hn3, hP3, hfr3, ha3, hb3, hmo3, _⟩
      cases heq
      repeat (first | with_reducible (first | refine n_on ?_ | refine n_seq ?_ | refine s_else ?_ | refine n_t ?_ | refine n_gt ?_ | refine d_t ?_ | refine n_nil ?_ | refine d_nil ?_ | refine n_block ?_ | refine n_skip ?_ | refine n_bon ?_ | refine n_bback ?_ | refine n_back ?_ | refine n_out ?_ | refine n_bout rfl ?_ | refine n_bfar rfl ?_ | refine n_ret ?_ | refine n_exit ?_ | refine n_label ?_ | refine n_scope ?_ | refine n_son ?_ | refine n_sback ?_) | (with_reducible (first | apply n_region | apply d_region); (simp only [JV, JU, JW, Nat.reduceAdd, Nat.zero_add]; exact rfl)) | (with_reducible (first | apply s_op | apply n_guard | apply n_cond | apply d_guard | apply d_op | apply n_fin | apply n_finb); (simp (maxDischargeDepth := 6) only [sy3.1, zY, qG, qP, qQ, qR, qS, qT, rowAt, ↓jg, ↓ji, Nat.reduceAdd, Nat.reduceEqDiff, ne_eq, jG, Nat.reduceLT, if_true, ite_true, Int.reduceLE, Int.reduceLT, Int.reduceEq, Int.reduceNeg, Int.reduceAdd, Nat.reduceSub, if_false, ite_false, fs_12.1, heapRow, kind_pure, kind_load, kind_fresh, kind_other, jg, ji, undef]; first | exact rfl | exact ⟨rfl, rfl, rfl, rfl⟩); try (with_reducible refine calmK_in ?_; decide +kernel)))
      have hnp : ∀ x, w x ≠ 2 → w x ≠ 3 → w x ≠ 4 → ¬ PMine B.p B.a B.b x := fun x a b c e => by have := hpk x e; omega
      refine hto_end h (w' := markA nx w a' b') (B' := { B with a := a', b := b' }) (by rfl) (h.freed (es' := es') (est' := est) (esn' := esn') (c := c) (ct := ct) (cn := cn) (by omega) (hP3.keep (by omega) fun _ _ => rfl) (ha3.imp id fun ⟨k, e, hk⟩ => ⟨k, e, by omega⟩) (hb3.imp id fun ⟨k, e, hk⟩ => ⟨k, e, by omega⟩) ?_ hmap' ?_ ?_ ?_ hmapn' fun x h0 h2 h3 h4 h5 h6 h7 => ?_) (by omega) rfl (fun x hx hw0 => ⟨?_, ?_⟩) (.inl ⟨B.ma, ?_, by rw [h.wma]; decide⟩)
      · rw [hfr3 _ (by omega) (hnp _ (by rw [h.wma]; decide) (by rw [h.wma]; decide) (by rw [h.wma]; decide))]; (repeat (first | rw [qE] | rw [qF _ _ _ _ (by omega)]))
      · rw [hfr3 _ (by omega) (hnp _ (by rw [h.wmt]; decide) (by rw [h.wmt]; decide) (by rw [h.wmt]; decide))]; (repeat (first | rw [qE] | rw [qF _ _ _ _ (by omega)])); exact hmt
      · unfold freeH; rw [if_neg hk]; exact hmapt
      · rw [hfr3 _ (by omega) (hnp _ (by rw [h.wmn]; decide) (by rw [h.wmn]; decide) (by rw [h.wmn]; decide))]; (repeat (first | rw [qE] | rw [qF _ _ _ _ (by omega)]))
      · have hx := h.wlt x h0
        have e1 : x ≠ B.ma := fun e => h5 (by rw [e]; exact h.wma)
        have e2 : x ≠ B.mn := fun e => h7 (by rw [e]; exact h.wmn)
        rw [hfr3 _ (by omega) (hnp _ h2 h3 h4)]; (repeat (first | rw [qE] | rw [qF _ _ _ _ (by omega)]))
      · have e1 : x ≠ B.ma := fun e => by rw [e, h.wma] at hw0; cases hw0
        have e2 : x ≠ B.mn := fun e => by rw [e, h.wmn] at hw0; cases hw0
        rw [hfr3 _ (by omega) (hnp _ (by omega) (by omega) (by omega))]; (repeat (first | rw [qE] | rw [qF _ _ _ _ (by omega)]))
      · rw [markA_old hx]; exact hw0
      · exact hmo3 _ (by simp only [in_relogL, in_note, true_or, or_true])
end
end Go.Proofs.Ythnlkahgmbadoaa
