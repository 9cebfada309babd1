/- HeapTexts: the inner loop's body. -/
import Derived.Test.YthnlkahgmbadoaaHtLaw0
import Derived.Test.YthnlkahgmbadoaaHmObjs
import Derived.Test.YthnlkahgmbadoaaSel
namespace Go.Proofs.Ythnlkahgmbadoaa
open Go.RowKit
set_option linter.unusedSimpArgs false
set_option linter.unusedVariables false
set_option maxRecDepth 100000

def htW (f : Func) : Code := sqR (sqR (sqR (sqR (bodyOf f))))
def htOut (f : Func) : Code := blkIn (sqR (sqL (htW f)))
def htB1 (f : Func) : Code := sqL (sqR (lpIn (htOut f)))
def htInn (f : Func) : Code := blkIn (sqR (blkIn (htB1 f)))
def htB3 (f : Func) : Code := sqL (sqR (lpIn (htInn f)))
/-- the law's memory -/
structure HtIn (z : List ByteArray) (ms bi : Nat) (o : Tr AObj) (nx : Nat) (w : Nat → Nat) (B : HB) (hs : HS) (es : List MapEntry) (c : Nat) : Prop where
  heap : HeapIn o nx w B hs
  hB : B.i = bi
  T : TxOnly hs
  w0 : w 0 = 0
  wm : w ms = 0
  ltm : ms < nx
  m0 : 0 < ms
  row : o.get 0 = some (.row (z.map Value.string) 0 1 false)
  seen : o.get ms = some (.map es c)
  kv : MapIs Value.string es (seenKV hs.texts)
theorem HtIn.more {z : List ByteArray} {ms bi : Nat} {o : Tr AObj} {nx : Nat} {w : Nat → Nat} {B : HB} {hs : HS} {es : List MapEntry} {c : Nat} (h : HtIn z ms bi o nx w B hs es c) {o' : Tr AObj} {nx' : Nat} (hn : nx ≤ nx') (hk : ∀ x, x < nx → o'.get x = o.get x) : HtIn z ms bi o' nx' w B hs es c :=
  ⟨h.heap.more hn hk, h.hB, h.T, h.w0, h.wm, Nat.lt_of_lt_of_le h.ltm hn, h.m0, (hk 0 (by have := h.ltm; have := h.m0; omega)).trans h.row, (hk ms h.ltm).trans h.seen, h.kv⟩
structure HtE (z : List ByteArray) (ms bi : Nat) (oa : Option Addr) (r : Nat) (e : Tr Value) : Prop where
  g0 : e.get 0 = some (.slice oa z.length 0)
  g3 : e.get 3 = some (.pointer (some ⟨bi, 0, none⟩))
  g5 : e.get 5 = some (.map (some ms))
  g6 : e.get 6 = some (.int .i64 (.ofNat r))
def HtSt (z : List ByteArray) (ms bi : Nat) (oa : Option Addr) (r cnt : Nat) (e : Tr Value) (H : AHeap) : Prop :=
  ∃ o nx lg w B hs es c, H = (⟨o, nx, lg⟩ : AHeap) ∧ HtIn z ms bi o nx w B hs es c ∧ hs.texts.length ≤ cnt ∧ HtE z ms bi oa r e
set_option maxHeartbeats 16000000 in
theorem ht_body {z : List ByteArray} {ms bi : Nat} {oa : Option Addr} {r cnt i : Nat} {e : Tr Value} {H : AHeap} (h : HtSt z ms bi oa r cnt e H) (g7 : e.get 7 = some (.int .i64 (.ofNat i))) (hi : i < z.length) (hoa : oa = some ⟨0, 0, none⟩) (hcnt : cnt ≤ 100) :
    Got (rCode Try.prog (oCall Try.prog [] O14 999) 999 (htB3 Try.f3) e H) fun s => ∃ e' H', s = (.on, e', H') ∧ HtSt z ms bi oa r (cnt + 1) e' H' ∧ e'.get 7 = some (.int .i64 (.ofNat i)) := by
  obtain ⟨o, nx, lg, w, B, hs, es, c, rfl, M, hc, E⟩ := h
  have g0 := E.g0
  have g3 := E.g3
  have g5 := E.g5
  have hrow := M.row
  obtain ⟨s, hsi⟩ : ∃ s, z[i]? = some s := ⟨_, List.getElem?_eq_getElem hi⟩
  have hz : (z.map Value.string)[i]? = some (.string s) := by rw [List.getElem?_map, hsi]; rfl
  subst hoa
  have l1 : Nat.blt i z.length = true := by rw [Nat.blt_eq]; exact hi
  refine n_block ?_
  by_cases hlen : 1000 < s.1.toList.length
  · have d1 : decide ((1000 : Int) < Int.ofNat s.1.toList.length) = true := decide_eq_true (by simp only [Int.ofNat_eq_natCast]; omega)
    repeat (first | with_reducible (first | refine n_on ?_ | refine n_seq ?_ | refine s_else ?_ | refine n_t ?_ | refine n_gt ?_ | refine d_t ?_ | refine n_nil ?_ | refine d_nil ?_ | refine n_block ?_ | refine n_skip ?_ | refine n_bon ?_ | refine n_bback ?_ | refine n_back ?_ | refine n_out ?_ | refine n_bout rfl ?_ | refine n_bfar rfl ?_ | refine n_ret ?_ | refine n_exit ?_ | refine n_label ?_ | refine n_scope ?_ | refine n_son ?_ | refine n_sback ?_) | (with_reducible (first | apply n_region | apply d_region); (simp only [JV, JU, JW, Nat.reduceAdd, Nat.zero_add]; exact rfl)) | (with_reducible (first | apply s_op | apply n_guard | apply n_cond | apply d_guard | apply d_op | apply n_fin | apply n_finb); (simp (maxDischargeDepth := 6) only [sy3.1, zY, qG, qP, qQ, qR, qS, qT, rowAt, ↓jg, ↓ji, Nat.reduceAdd, Nat.reduceEqDiff, ne_eq, jG, Nat.reduceLT, if_true, ite_true, Int.reduceLE, Int.reduceLT, Int.reduceEq, Int.reduceNeg, Int.reduceAdd, Nat.reduceSub, if_false, ite_false, fs_3.1, g0, g3, g5, g7, hrow, hz, l1, d1, indexAt, Option.isNone_none, Nat.mul_one, Nat.zero_add, kind_pure, kind_load, kind_fresh, kind_other, jg, ji, undef]; first | exact rfl | exact ⟨rfl, rfl, rfl, rfl⟩); try (with_reducible refine calmK_in ?_; decide +kernel)))
    refine ⟨_, _, rfl, ⟨o, _, lg, w, B, hs, es, c, rfl, M.more (by omega) fun _ _ => rfl, by omega, ⟨?_, ?_, ?_, ?_⟩⟩, ?_⟩ <;> simp only [qC, qD, qE, qF, Tr.get_nil, ne_eq, not_false_eq_true, Nat.reduceEqDiff, g0, g3, g5, g7, E.g6]
  · have d1 : decide ((1000 : Int) < Int.ofNat s.1.toList.length) = false := decide_eq_false (by simp only [Int.ofNat_eq_natCast]; omega)
    repeat (first | with_reducible (first | refine n_on ?_ | refine n_seq ?_ | refine s_else ?_ | refine n_t ?_ | refine n_gt ?_ | refine d_t ?_ | refine n_nil ?_ | refine d_nil ?_ | refine n_block ?_ | refine n_skip ?_ | refine n_bon ?_ | refine n_bback ?_ | refine n_back ?_ | refine n_out ?_ | refine n_bout rfl ?_ | refine n_bfar rfl ?_ | refine n_ret ?_ | refine n_exit ?_ | refine n_label ?_ | refine n_scope ?_ | refine n_son ?_ | refine n_sback ?_) | (with_reducible (first | apply n_region | apply d_region); (simp only [JV, JU, JW, Nat.reduceAdd, Nat.zero_add]; exact rfl)) | (with_reducible (first | apply s_op | apply n_guard | apply n_cond | apply d_guard | apply d_op | apply n_fin | apply n_finb); (simp (maxDischargeDepth := 6) only [sy3.1, zY, qG, qP, qQ, qR, qS, qT, rowAt, ↓jg, ↓ji, Nat.reduceAdd, Nat.reduceEqDiff, ne_eq, jG, Nat.reduceLT, if_true, ite_true, Int.reduceLE, Int.reduceLT, Int.reduceEq, Int.reduceNeg, Int.reduceAdd, Nat.reduceSub, if_false, ite_false, fs_3.1, g0, g3, g5, g7, hrow, hz, l1, d1, indexAt, Option.isNone_none, Nat.mul_one, Nat.zero_add, kind_pure, kind_load, kind_fresh, kind_other, jg, ji, undef]; first | exact rfl | exact ⟨rfl, rfl, rfl, rfl⟩); try (with_reducible refine calmK_in ?_; decide +kernel)))
    obtain ⟨d, p1, p2, T1, hmem, hcase⟩ := strO_plain M.T s (by omega) (by omega)
    obtain ⟨hs1, hs1e⟩ : ∃ hs1, (strO hs s).1 = hs1 := ⟨_, rfl⟩
    have hMc := M.T.good.cnt
    have hMo : hs.objs.length = hs.texts.length := by rw [M.T.objs, List.length_map]
    have hMz := M.T.sizes
    refine s_do _ (by
      simp (maxDischargeDepth := 6) only [sy3.1, zY, qG, qP, qQ, qR, qS, qT, rowAt, ↓jg, ↓ji, Nat.reduceAdd, Nat.reduceEqDiff, ne_eq, jG, Nat.reduceLT, if_true, ite_true, Int.reduceLE, Int.reduceLT, Int.reduceEq, Int.reduceNeg, Int.reduceAdd, Nat.reduceSub, if_false, ite_false, fs_3.1, ← M.hB]
      exact str_ok (n := 994) clear14 (M.heap.more (by omega) fun _ _ => rfl) M.T.watch s (by omega) M.T.good (by omega) (by rw [M.T.made]; decide) (by omega)) ?_
    rintro v1 H1 ⟨o1, nx1, lg1, w1, B1, heq, hn1, hH1, hB1, hfr, hmo, hl⟩
    cases heq
    rw [hs1e] at hH1 T1 hmem hcase
    rw [p1, p2]
    have htx := T1.text hmem
    have hn1' : nx + 18 ≤ nx1 := hn1
    have hw15 : w1 (nx + 15) = 0 := (hfr (nx + 15) (by omega) (by
      by_cases e : w (nx + 15) = 0
      · exact e
      · have := M.heap.wlt _ e; omega)).2
    have hHk : ∀ (o2 : Tr AObj) (q : Nat), nx1 ≤ q → (∀ x, x ≠ nx + 15 → o2.get x = o1.get x) → HeapIn o2 q w1 B1 hs1 := fun o2 q hq hk => hH1.keep hq (fun x hx => Nat.lt_of_lt_of_le (hH1.wlt x hx) hq) fun x hx => ⟨hk x fun e => hx (by rw [e]; exact hw15), rfl⟩
    have hT := fun (X Y Z : AObj) (q : Nat) (lg : List Nat) => text_ok (n := 995) (lg := lg) clear14 (hHk (((o1.put (nx + 15) (some X)).put (nx + 15) (some Y)).put (nx + 15) (some Z)) (nx1 + q) (by omega) fun x hx => by (repeat (first | rw [qE] | rw [qF _ _ _ _ (by omega)]))) (4, d)
    simp only [hB1, M.hB, htx] at hT
    have hlt0 : 0 < nx := Nat.lt_trans M.m0 M.ltm
    have h0 : o1.get 0 = some (.row (z.map Value.string) 0 1 false) := (hfr 0 (by omega) M.w0).1.trans M.row
    have hms : o1.get ms = some (.map es c) := (hfr ms (by have := M.ltm; omega) M.wm).1.trans M.seen
    have hmlt := M.ltm
    have hm0 := M.m0
    have q1 : (0 : Nat) ≠ nx + 15 := by omega
    have q2 : ms ≠ nx + 15 := by omega
    have q3 := Ne.symm q2
    have hw0 := (hfr 0 (by omega) M.w0).2
    have hwm := (hfr ms (by omega) M.wm).2
    have u1 : nx + 15 < nx1 := by omega
    have u2 : ms < nx1 := by omega
    have u3 : 0 < nx1 := by omega
    have hl : ∀ H : AHeap, H.get ms = some (.map es c) → aLookup Try.prog 27 (.map (some ms)) (.string s) true H = _ := fun H hg => aLookup_by key_str Try.underlying27 (show zeroOf Try.prog 30 = some (.agg #[.int .u8 0, .int .i64 0]) by kernel_rfl) hg M.kv s true
    obtain ⟨es', c', hput, hmap'⟩ := map_put key_str Try.underlying27 M.kv ms c s (.agg #[.int .u8 4, .int .i64 d])
    have hss : decide (s = s) = true := decide_eq_true rfl
    have hseen : hs1.texts = if lookT hs.texts s = none then hs.texts ++ [(s, d)] else hs.texts := by
      rcases hcase with ⟨e1, e2⟩ | ⟨e1, e2⟩
      · rw [e2, if_neg (by rw [e1]; simp)]
      · rw [e2, if_pos e1]
    have hlen1 : hs1.texts.length ≤ cnt + 1 := by
      rw [hseen]; split
      · simp; omega
      · omega
    rw [put_seen _ _ _ (hcase.imp And.left And.left), ← hseen] at hmap'
    rcases hcase with ⟨e1, e2⟩ | ⟨e1, e2⟩
    · rcases kv_seen s hs.texts 0 with ⟨k1, _⟩ | ⟨d', r', k1, _, k3⟩
      · rw [e1] at k1; cases k1
      rw [e1] at k1
      cases k1
      rw [k3] at hl
      repeat (first | with_reducible (first | refine n_on ?_ | refine n_seq ?_ | refine s_else ?_ | refine n_t ?_ | refine n_gt ?_ | refine d_t ?_ | refine n_nil ?_ | refine d_nil ?_ | refine n_block ?_ | refine n_skip ?_ | refine n_bon ?_ | refine n_bback ?_ | refine n_back ?_ | refine n_out ?_ | refine n_bout rfl ?_ | refine n_bfar rfl ?_ | refine n_ret ?_ | refine n_exit ?_ | refine n_label ?_ | refine n_scope ?_ | refine n_son ?_ | refine n_sback ?_) | (with_reducible (first | apply n_region | apply d_region); (simp only [JV, JU, JW, Nat.reduceAdd, Nat.zero_add]; exact rfl)) | (with_reducible (first | apply s_op | apply n_guard | apply n_cond | apply d_guard | apply d_op | apply n_fin | apply n_finb); (simp (maxDischargeDepth := 6) only [sy3.1, zY, qG, qP, qQ, qR, qS, qT, rowAt, ↓jg, ↓ji, Nat.reduceAdd, Nat.reduceEqDiff, ne_eq, jG, Nat.reduceLT, if_true, ite_true, Int.reduceLE, Int.reduceLT, Int.reduceEq, Int.reduceNeg, Int.reduceAdd, Nat.reduceSub, if_false, ite_false, fs_3.1, g0, g3, g5, g7, l1, d1, indexAt, Option.isNone_none, Nat.mul_one, Nat.zero_add, vv, hT, h0, hms, hz, hl, hput, hss, vv_ne_same, q1, q2, q3, hmlt, u1, u2, u3, kind_pure, kind_load, kind_fresh, kind_other, jg, ji, undef]; first | exact rfl | exact ⟨rfl, rfl, rfl, rfl⟩); try (with_reducible refine calmK_in ?_; decide +kernel)))
      refine ⟨_, _, rfl, ⟨_, _, _, w1, B1, hs1, es', c', rfl, ⟨hH1.keep (by omega) (fun x hx => by have := hH1.wlt x hx; omega) fun x hx => ⟨?_, rfl⟩, hB1.trans M.hB, T1, hw0, hwm, by omega, M.m0, ?_, ?_, hmap'⟩, hlen1, ⟨?_, ?_, ?_, ?_⟩⟩, ?_⟩
      · have := hH1.wlt x hx
        have v1 : x ≠ nx + 15 := fun e => hx (by rw [e]; exact hw15)
        have v2 : x ≠ ms := fun e => hx (by rw [e]; exact hwm)
        (repeat (first | rw [qE] | rw [qF _ _ _ _ (by omega)]))
      · (repeat (first | rw [qE] | rw [qF _ _ _ _ (by omega)]))
        exact h0
      · (repeat (first | rw [qE] | rw [qF _ _ _ _ (by omega)]))
      all_goals simp only [qC, qD, qE, qF, Tr.get_nil, ne_eq, not_false_eq_true, Nat.reduceEqDiff, g0, g3, g5, g7, E.g6]
    · rcases kv_seen s hs.texts 0 with ⟨k1, k2⟩ | ⟨d', r', k1, _, k3⟩
      rotate_left
      · rw [e1] at k1; cases k1
      rw [k2] at hl
      repeat (first | with_reducible (first | refine n_on ?_ | refine n_seq ?_ | refine s_else ?_ | refine n_t ?_ | refine n_gt ?_ | refine d_t ?_ | refine n_nil ?_ | refine d_nil ?_ | refine n_block ?_ | refine n_skip ?_ | refine n_bon ?_ | refine n_bback ?_ | refine n_back ?_ | refine n_out ?_ | refine n_bout rfl ?_ | refine n_bfar rfl ?_ | refine n_ret ?_ | refine n_exit ?_ | refine n_label ?_ | refine n_scope ?_ | refine n_son ?_ | refine n_sback ?_) | (with_reducible (first | apply n_region | apply d_region); (simp only [JV, JU, JW, Nat.reduceAdd, Nat.zero_add]; exact rfl)) | (with_reducible (first | apply s_op | apply n_guard | apply n_cond | apply d_guard | apply d_op | apply n_fin | apply n_finb); (simp (maxDischargeDepth := 6) only [sy3.1, zY, qG, qP, qQ, qR, qS, qT, rowAt, ↓jg, ↓ji, Nat.reduceAdd, Nat.reduceEqDiff, ne_eq, jG, Nat.reduceLT, if_true, ite_true, Int.reduceLE, Int.reduceLT, Int.reduceEq, Int.reduceNeg, Int.reduceAdd, Nat.reduceSub, if_false, ite_false, fs_3.1, g0, g3, g5, g7, l1, d1, indexAt, Option.isNone_none, Nat.mul_one, Nat.zero_add, vv, hT, h0, hms, hz, hl, hput, hss, vv_ne_same, q1, q2, q3, hmlt, u1, u2, u3, kind_pure, kind_load, kind_fresh, kind_other, jg, ji, undef]; first | exact rfl | exact ⟨rfl, rfl, rfl, rfl⟩); try (with_reducible refine calmK_in ?_; decide +kernel)))
      refine ⟨_, _, rfl, ⟨_, _, _, w1, B1, hs1, es', c', rfl, ⟨hH1.keep (by omega) (fun x hx => by have := hH1.wlt x hx; omega) fun x hx => ⟨?_, rfl⟩, hB1.trans M.hB, T1, hw0, hwm, by omega, M.m0, ?_, ?_, hmap'⟩, hlen1, ⟨?_, ?_, ?_, ?_⟩⟩, ?_⟩
      · have := hH1.wlt x hx
        have v1 : x ≠ nx + 15 := fun e => hx (by rw [e]; exact hw15)
        have v2 : x ≠ ms := fun e => hx (by rw [e]; exact hwm)
        (repeat (first | rw [qE] | rw [qF _ _ _ _ (by omega)]))
      · (repeat (first | rw [qE] | rw [qF _ _ _ _ (by omega)]))
        exact h0
      · (repeat (first | rw [qE] | rw [qF _ _ _ _ (by omega)]))
      all_goals simp only [qC, qD, qE, qF, Tr.get_nil, ne_eq, not_false_eq_true, Nat.reduceEqDiff, g0, g3, g5, g7, E.g6]
end Go.Proofs.Ythnlkahgmbadoaa
